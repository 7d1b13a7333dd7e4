/-
  Folder 13's awake and same: the walks.
-/
import Derived.Test.YtfckjilhkdlpfaaGreatDoorRkC
import Derived.Test.YtfckjilhkdlpfaaGreatDoorRkD
namespace Go.Proofs.YtfckjilhkdlpfaaGreatDoor
open Go.RowKit MS

theorem str_row {w : World} {g T : Nat} {L : List ByteArray} (h : w.heap[g]? = some (.cells (L.map Value.string).toArray T (0, 0))) (j : Nat) (hj : j < L.length) : w.cell? ⟨g, j, none⟩ = some (.string (L[j]'hj)) := by
  rw [cell_of_row w g j _ _ _ h]
  simp [hj]
set_option maxRecDepth 1000000 in
set_option maxHeartbeats 1000000 in
/-- Slices of the same keys are the same. -/
theorem same_yes (L : List ByteArray) (g k : Nat) (w : World) (hL : L.length ≤ 100) (hg : w.heap[g]? = some (.cells (L.map Value.string).toArray 9 (0, 0))) (hk : w.heap[k]? = some (.cells (L.map Value.string).toArray 9 (0, 0))) :
    Calls Tryz.prog 20 #[.slice (some ⟨g, 0, none⟩) L.length L.length, .slice (some ⟨k, 0, none⟩) L.length L.length] w fun e w' => e = .returned (.bool true) ∧ Below w.heap.size w w' := by
  have CG := Lib.hid (fun (w' : World) (hb : Below w.heap.size w w') (j : Nat) (hj : j < L.length) => str_row ((hb.block g (Array.getElem?_eq_some_iff.1 hg).1).trans hg) j hj)
  have CK := Lib.hid (fun (w' : World) (hb : Below w.heap.size w w') (j : Nat) (hj : j < L.length) => str_row ((hb.block k (Array.getElem?_eq_some_iff.1 hk).1).trans hk) j hj)
  clear hg hk
  have HL := Lib.hid hL
  clear hL
  obtain ⟨n, hn⟩ : ∃ n, n = L.length := ⟨_, rfl⟩
  have HX := Lib.hid (show ∀ j, j < n → ∃ x : ByteArray, (∀ w' : World, Below w.heap.size w w' → w'.cell? ⟨g, j, none⟩ = some (.string x)) ∧ (∀ w' : World, Below w.heap.size w w' → w'.cell? ⟨k, j, none⟩ = some (.string x)) from fun j hj => ⟨L[j]'(hn ▸ hj), fun w' hb => CG.out w' hb j (hn ▸ hj), fun w' hb => CK.out w' hb j (hn ▸ hj)⟩)
  have hn2 := HL.out
  rw [← hn] at hn2 ⊢
  clear CG CK HL hn
  clear L
  go_enter Tryz.func20, Tryz.ntmps20
  go_wp2_with fail
  go_loopw [13] (fun i wr => ∃ j : Nat, j ≤ n ∧ i = .int .i64 j ∧ Below w.heap.size w wr) (fun i _ => n - (intOf i).toNat)
  case atStart => exact ⟨0, by omega, rfl, Below.refl _ _⟩
  case round =>
    obtain ⟨j, hj, rfl, hb⟩ := hrel
    have HB := Lib.hid hb
    clear hb
    by_cases hlt : j < n
    · have j1 : (j : Int) < n := by omega
      have j0 : (0 : Int) ≤ j := by omega
      have n0 : (n : Int) ≤ 100 := by omega
      obtain ⟨x, X1, X2⟩ := HX.out j hlt
      have ca := X1 _ HB.out
      have cb := X2 _ HB.out
      clear X1 X2
      have HLT := Lib.hid hlt
      clear hlt hj
      go_wp2_with fail
      go_quiet (fail)
      go_wp2_with fail
      go_roundw
      case rel => exact ⟨j + 1, HLT.out, by go_num, below_drewN HB.out _⟩
      case measure => simp [intOf]; omega
    · have j1 : ¬ ((j : Int) < n) := by omega
      clear hlt
      go_wp2_with fail
      go_ret
      exact ⟨rfl, HB.out⟩
set_option maxRecDepth 1000000 in
set_option maxHeartbeats 1000000 in
theorem same_nil (w : World) : Calls Tryz.prog 20 #[.slice none 0 0, .slice none 0 0] w fun e w' => e = .returned (.bool true) ∧ Below w.heap.size w w' := by
  go_enter Tryz.func20, Tryz.ntmps20
  go_wp2_with fail
  go_loopw [13] (fun i wr => i = .int .i64 0 ∧ Below w.heap.size w wr) (fun i _ => (intOf i).toNat)
  case atStart => exact ⟨rfl, Below.refl _ _⟩
  case round =>
    obtain ⟨rfl, hb⟩ := hrel
    have HB := Lib.hid hb
    clear hb
    go_wp2_with fail
    go_ret
    exact ⟨rfl, HB.out⟩

set_option maxHeartbeats 1000000 in
theorem awake13_any (w : World) :
    Calls Tryz.prog 8 #[] w fun e w' => e = .returned (.bool true) ∧ Below w.heap.size w w' := by
  have hp := put_yes a0 a0_ok
  have ht := take_put a0 a0_ok
  have hz := a0_size
  generalize a0.put = S at *
  unfold a0 Acc.v bs at hp ht
  simp only at hp ht
  have HP := Lib.hid hp
  have HT := Lib.hid ht
  clear hp ht
  go_enter Tryz.func8, Tryz.ntmps8
  go_wp2_with fail
  refine (HP.out _).mono ?_
  rintro e w1 ⟨rfl, hb1⟩
  obtain ⟨hc1, hf1⟩ := bcell hb1
  go_wp2_with fail
  refine (HT.out _).mono ?_
  rintro e w2 ⟨rfl, hb2⟩
  obtain ⟨hc2, hf2⟩ := bcell hb2
  go_wp2_with (go_at_call 26; refine (rightUser_any _ _).mono ?_; rintro e w' ⟨rfl, rfl⟩)
  go_ret
  refine ⟨by simp [Al_user], ?_⟩
  repeat (first | (with_reducible exact Below.refl _ _) | (with_reducible refine below_setCell ?_ (by simp) _) | (with_reducible apply below_alloc) | (with_reducible apply Below.drew) | (with_reducible refine below_chain ?_ (by assumption)))
end Go.Proofs.YtfckjilhkdlpfaaGreatDoor
