/-
  mailsackref06.number: the walk.
-/
import Derived.Test.YtkfacnegfkgcgaaPRc
namespace Go.Proofs.Ytkfacnegfkgcgaa
open Go.RowKit MS

theorem number_step (l : List UInt8) (j : Nat) (h : j < l.length) : dgn 256 (j + 1) (leb l) = dgn 256 j (leb l) ++ [(l.getD j 0).toNat] := by
  rw [dg_succ, leb_digit l j h, List.getD_eq_getElem?_getD, List.getElem?_eq_getElem h]
  rfl

set_option maxRecDepth 1000000 in
set_option maxHeartbeats 1000000 in
theorem number_any (s : ByteArray) (w : World) (hs : s.size ≤ 90) :
    Calls Try.prog 44 #[.string s] w fun e w' => Below w.heap.size w w' ∧ ∃ r, e = .returned r ∧ w'.ownsRow w.heap.size 3 1 r s.size (evs (dgn 256 s.size (leb (ls s)))) := by
  obtain ⟨i0, hi, hz0, hz1, hz2⟩ : ∃ i, Try.prog.info? 3 = some i ∧ i.zero = some (.int .i64 0) ∧ i.size = 1 ∧ i.bytes = 8 := ⟨_, rfl, rfl, rfl, rfl⟩
  have HST := Lib.hid (fun j h => number_step (ls s) j h)
  have HLEN := Lib.hid (length_ls s)
  have HS := Lib.hid hs
  have hown0 : w.ownsRow w.heap.size 3 1 (.slice none 0 0) 0 (evs (dgn 256 0 (leb (ls s)))) := World.ownsRow_nil _ _ _ _
  have hz : (s.size : Int) ≤ 90 := by omega
  clear hs
  go_enter Try.func44, Try.ntmps44
  go_wp2_with fail
  go_loopw [3, 4] (fun v i wr => ∃ j : Nat, j ≤ s.size ∧ i = .int .i64 j ∧ wr.ownsRow w.heap.size 3 1 v j (evs (dgn 256 j (leb (ls s)))) ∧ Below w.heap.size w wr) (fun _ i _ => s.size - (intOf i).toNat)
  case atStart => exact ⟨0, by omega, rfl, hown0, Below.refl _ _⟩
  case round =>
    obtain ⟨j, hj, rfl, ho, hb⟩ := hrel
    have HO := Lib.hid ho
    have HB := Lib.hid hb
    have HJ := Lib.hid hj
    have hs0 : _ ≤ wr.heap.size := hb.size
    clear ho hb hj hown0
    by_cases hlt : j < s.size
    · have j1 : (j : Int) < s.size := by omega
      have j0 : (0 : Int) ≤ (j : Int) := by omega
      have HL := Lib.hid hlt
      have HST2 := Lib.hid (HST.out j (by rw [HLEN.out]; exact hlt))
      have g0 := ls_get s j hlt
      have b0 := UInt8.toNat_lt ((ls s).getD j 0)
      have HML := Lib.hid (show j + 1 ≤ maxLen by have := HS.out; unfold maxLen; omega)
      have HMB := Lib.hid (show (j + 1) * 8 ≤ 140737488355328 by have := HS.out; omega)
      generalize (ls s).getD j 0 = x0 at *
      have m0 : (x0.toNat : Int) < 256 := by omega
      have HAL := Lib.hid (HO.out.alloc (.cells #[.int .i64 (x0.toNat : Int)] 3 (0, 0)))
      clear b0
      go_wp2_with (at_builtin; refine wpList_append_own _ rfl (.tmp 11) (.tmp 16) 67 rfl _ 3 i0 (.int .i64 0) 1 8 Try.underlying67 hi hz0 hz1 hz2 rfl (by decide) _ _ _ rfl HAL.out ⟨wr.heap.size, 0, none⟩ 1 1 [.int .i64 (x0.toNat : Int)] rfl rfl (one_cell wr _ _) (one_one _ rfl) HML.out HMB.out (le_alloc hs0 _) ?_)
      intro v1 w1 h1 h2 h3
      have HB1 := Lib.hid (below_app HB.out _ _ _ _ _ HO.out h2)
      have HO1 := Lib.hid (show w1.ownsRow w.heap.size 3 1 v1 (j + 1) (evs (dgn 256 (j + 1) (leb (ls s)))) from by rw [HST2.out, evs_app]; exact h1)
      clear h1 h2 h3 hs0 g0 hlt
      go_wp2_with fail
      go_roundw
      case rel => exact ⟨j + 1, by have := HL.out; omega, by go_num, HO1.out, HB1.out⟩
      case measure => simp [intOf]; have := HL.out; omega
    · have j1 : ¬ (j : Int) < s.size := by omega
      have hjn : j = s.size := by have := HJ.out; omega
      have HO9 := Lib.hid (show wr.ownsRow w.heap.size 3 1 _ s.size (evs (dgn 256 s.size (leb (ls s)))) from by rw [← hjn]; exact HO.out)
      clear hlt hjn
      go_wp2_with fail
      go_ret
      exact ⟨HB.out, _, rfl, HO9.out⟩
end Go.Proofs.Ytkfacnegfkgcgaa
