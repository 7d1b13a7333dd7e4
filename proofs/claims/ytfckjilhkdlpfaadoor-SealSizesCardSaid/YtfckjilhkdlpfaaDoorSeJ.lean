/-
  seal.derive, mailsackref08.keys, mailsackref08.base: the walks.
-/
import Derived.Test.YtfckjilhkdlpfaaDoorSeG
import Derived.Deep.DeepCutAuto
import Derived.OwnWalk
namespace Go.Proofs.YtfckjilhkdlpfaaDoor
open Go.RowKit MS

def mailB : ByteArray := ⟨#[109, 97, 105, 108]⟩
/-- The key and the nonce of a box. -/
def bothB (sec salt : ByteArray) : ByteArray := drawB sec salt mailB 44
theorem size_bothB (sec salt : ByteArray) : (bothB sec salt).size = 44 := size_drawB _ _ _ _

set_option maxRecDepth 1000000 in
set_option maxHeartbeats 1000000 in
theorem derive_any (sec salt : ByteArray) (w : World) (h1 : sec.size ≤ 1000) (h2 : salt.size ≤ 1000) (G : Glob w) :
    Calls Tryd.prog 42 #[.string sec, .string salt] w fun e w' => e = .returned (.tuple #[.string ((bothB sec salt).extract 0 32), .string ((bothB sec salt).extract 32 44), .int .i64 0]) ∧ Below w.heap.size w w' := by
  have HD := Lib.hid (draw_yes sec salt ⟨#[109, 97, 105, 108]⟩ 44 w (by omega) h1 h2 (by decide) G)
  rw [show drawB sec salt ⟨#[109, 97, 105, 108]⟩ 44 = bothB sec salt from rfl] at HD
  have hz := size_bothB sec salt
  generalize bothB sec salt = b at *
  have z1 : (b.size : Int) = 44 := by omega
  have z2 : (32 : Int) ≤ (b.size : Int) := by omega
  have HZ := Lib.hid hz
  clear h1 h2 G hz
  go_enter Tryd.func42, Tryd.ntmps42
  go_wp2_with fail
  refine HD.out.mono ?_
  rintro e w1 ⟨rfl, hb⟩
  have B := Lib.hid hb
  clear hb
  go_wp2_with fail
  go_quiet (fail)
  have B1 := Lib.hid (below_drewN B.out nq)
  generalize w1.drewN nq = w2 at B1 ⊢
  rw [HZ.out]
  go_wp2_with fail
  go_ret3
  exact ⟨rfl, B1.out⟩
set_option maxRecDepth 1000000 in
set_option maxHeartbeats 1000000 in
theorem rkeys_any (sec own pub : ByteArray) (w : World) (h1 : sec.size ≤ 1000) (h2 : own.size ≤ 400) (h3 : pub.size ≤ 400) :
    Calls Tryd.prog 46 #[.string sec, .string own, .string pub] w fun e w' => e = .returned (.tuple #[.string ((bothB sec (own ++ pub)).extract 0 32), .string ((bothB sec (own ++ pub)).extract 32 44)]) ∧ Below w.heap.size w w' := by
  have HD := Lib.hid (rdraw_any sec (own ++ pub) ⟨#[109, 97, 105, 108]⟩ 44 w (by omega) h1 (by rw [ByteArray.size_append]; omega) (by decide))
  rw [show drawB sec (own ++ pub) ⟨#[109, 97, 105, 108]⟩ 44 = bothB sec (own ++ pub) from rfl] at HD
  have hz := size_bothB sec (own ++ pub)
  generalize bothB sec (own ++ pub) = b at *
  have z1 : (b.size : Int) = 44 := by omega
  have z2 : (32 : Int) ≤ (b.size : Int) := by omega
  have HZ := Lib.hid hz
  have o1 : (own.size : Int) ≤ 400 := by omega
  have o2 : (pub.size : Int) ≤ 400 := by omega
  clear h1 h2 h3 hz
  go_enter Tryd.func46, Tryd.ntmps46
  go_wp2_with fail
  refine HD.out.mono ?_
  rintro e w1 ⟨rfl, hb⟩
  have B := Lib.hid hb
  clear hb
  go_wp2_with fail
  go_quiet (fail)
  have B1 := Lib.hid (below_drewN B.out nq)
  generalize w1.drewN nq = w2 at B1 ⊢
  rw [HZ.out]
  go_wp2_with fail
  go_ret2
  exact ⟨rfl, B1.out⟩
set_option maxRecDepth 1000000 in
set_option maxHeartbeats 1000000 in
theorem rbase_any (w : World) : Calls Tryd.prog 45 #[] w fun e w' => e = .returned (.string baseB) ∧ Below w.heap.size w w' := by
  have b0 := Bt.made (T := 5) (Below.refl w.heap.size w) (List.replicate 32 0)
  obtain ⟨w1, hw1⟩ : ∃ w1, w.alloc (.cells (vls (List.replicate 32 0)).toArray 5 (0, 0)) = w1 := ⟨_, rfl⟩
  obtain ⟨g, hg⟩ : ∃ g, w.heap.size = g := ⟨_, rfl⟩
  rw [hw1] at b0
  rw [hg] at b0
  have k0 := b0.cell 0 (by simp)
  have f0 := b0.free 0
  have p0 := b0.put 0 9
  rw [show valB 9 = .int .u8 9 from rfl] at p0
  have hcv := p0.conv 32 32 (by simp)
  rw [show bs ((List.replicate 32 (0 : UInt8)).set 0 9) = baseB from rfl] at hcv
  have P0 := Lib.hid p0
  rw [show (((List.replicate 32 (0 : UInt8)).getD 0 0).toNat : Int) = 0 from rfl] at k0
  have HW := Lib.hid hw1
  have HG := Lib.hid hg
  clear p0 b0 hw1 hg
  go_enter Tryd.func45, Tryd.ntmps45
  go_upto_region 1 with fail
  go_wp2_with (refine wpList_make_u8 rfl (.const (.int .i64 32)) (.const (.int .i64 32)) rfl 32 rfl rfl (by omega) ?_; rw [HW.out, HG.out])
  go_ret
  exact ⟨rfl, P0.out.bel⟩
end Go.Proofs.YtfckjilhkdlpfaaDoor
