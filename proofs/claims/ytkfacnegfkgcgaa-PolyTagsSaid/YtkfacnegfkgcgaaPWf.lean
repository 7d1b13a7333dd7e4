/-
  poly.padded: the walk.
-/
import Derived.Test.YtkfacnegfkgcgaaPWe
import Derived.Test.YtkfacnegfkgcgaaBytE
namespace Go.Proofs.Ytkfacnegfkgcgaa
open Go.RowKit MS

set_option maxRecDepth 100000 in
theorem pad_full (s : ByteArray) (w : World) (hs : s.size = 16) :
    Calls Try.prog 40 #[.string s] w fun e w' => e = .returned (.string s) ∧ Below w.heap.size w w' := by
  have t1 : ((s.size : Int) == 16) = true := by simp; omega
  clear hs
  go_enter Try.func40, Try.ntmps40
  go_wp2_with fail
  go_ret
  exact ⟨rfl, Below.refl _ _⟩
def padP (s : ByteArray) : ByteArray := bs (ls s ++ 1 :: List.replicate (15 - s.size) 0)
theorem size_padP (s : ByteArray) (h : s.size ≤ 15) : (padP s).size = 16 := by
  rw [padP, size_bs, List.length_append, List.length_cons, List.length_replicate, length_ls]; omega
theorem leb_padP (s : ByteArray) : leb (ls (padP s)) = leb (ls s) + 256 ^ s.size := by
  rw [padP, ls_bs, leb_app, leb, leb_zeros, length_ls]
  show leb (ls s) + 256 ^ s.size * 1 = _
  rw [Nat.mul_one]

set_option maxRecDepth 100000 in
set_option maxHeartbeats 1000000 in
theorem pad_part (s : ByteArray) (w : World) (hs : s.size ≤ 15) :
    Calls Try.prog 40 #[.string s] w fun e w' => e = .returned (.string (padP s)) ∧ Below w.heap.size w w' := by
  have t1 : ((s.size : Int) == 16) = false := by simp; omega
  have s1 : (s.size : Int) < 16 := by omega
  have s0 : (0 : Int) ≤ (s.size : Int) := by omega
  have HS := Lib.hid hs
  have HL := Lib.hid (length_ls s)
  have B0 := Lib.hid (Bt.made (T := 75) (Below.refl w.heap.size w) (List.replicate 16 0))
  have HR := Lib.hid (show padP s = bs (ls s ++ 1 :: List.replicate (15 - s.size) 0) from rfl)
  generalize padP s = R at HR ⊢
  clear hs
  go_enter Try.func40, Try.ntmps40
  go_upto_region 4 with fail
  rw [zeros16]
  generalize w.alloc (.cells (vls (List.replicate 16 0)).toArray 75 (0, 0)) = w1 at B0 ⊢
  generalize hA : w.heap.size = ga at B0 ⊢
  have HA := Lib.hid hA
  clear hA
  go_wp2_with (with_reducible refine wpList_copy_bt rfl (.tmp 8) (.tmp 9) rfl 75 ga 16 16 s rfl rfl w B0.out ?hle ?_)
  case hle => have := HS.out; omega
  intro w2 b2
  have cu := b2.cell s.size (by have := HS.out; have := HL.out; simp; omega)
  have fu := b2.free s.size
  have b3 := b2.put s.size 1
  have e1 : (ls s ++ List.replicate (16 - (ls s).length) 0).set s.size 1 = ls s ++ 1 :: List.replicate (15 - s.size) 0 := by
    have hl := HL.out
    have h15 := HS.out
    rw [List.set_append_right _ _ (by omega), hl, Nat.sub_self, show 16 - s.size = (15 - s.size) + 1 by omega, List.replicate_succ, List.set_cons_zero]
  rw [e1] at b3
  have B3 := Lib.hid (show Bt 75 ga w (ls s ++ 1 :: List.replicate (15 - s.size) 0) (w2.setCell ⟨ga, s.size, none⟩ (.int .u8 1)) from b3)
  have hcv := b3.conv 16 16 (by have := HS.out; have := HL.out; simp; omega)
  have hcv2 : (convert 37 9 (.slice (some ⟨ga, 0, none⟩) 16 16)).run Try.prog (w2.setCell ⟨ga, s.size, none⟩ (.int .u8 1)) = .ok (.string R) (w2.setCell ⟨ga, s.size, none⟩ (.int .u8 1)) := by rw [HR.out]; exact hcv
  clear b2 b3 e1 hcv B0 HR
  go_wp2_with fail
  go_ret
  exact ⟨rfl, HA.out ▸ B3.out.bel⟩
end Go.Proofs.Ytkfacnegfkgcgaa
