/-
  mailsackref03.Prime, below, minus: the walks.
-/
import Derived.Test.YthlmphloalbhnaaRFb
namespace Go.Proofs.Ythlmphloalbhnaa
open Go.RowKit MS

theorem prime_digits : dgn 65536 16 Q' = 65517 :: List.replicate 14 65535 ++ [32767] := by decide +kernel
set_option maxRecDepth 1000000 in
set_option maxHeartbeats 1000000 in
theorem rprime_any (w : World) : Calls Try.prog 46 #[] w fun e w' => Below w.heap.size w w' ∧ ∃ r, e = .returned r ∧ w'.ownsRow w.heap.size 3 1 r 16 (dvs (dgn 65536 16 Q')) := by
  obtain ⟨i0, hi, hz0, hz1, hz2⟩ : ∃ i, Try.prog.info? 3 = some i ∧ i.zero = some (.int .i64 0) ∧ i.size = 1 ∧ i.bytes = 8 := ⟨_, rfl, rfl, rfl, rfl⟩
  have h0 := World.ownsRow_lit (base := w.heap.size) (e := 3) (size := 1) w #[.int .i64 65517] 1 (Nat.le_refl _) (by decide) rfl
  have O0 := Lib.hid (show (w.alloc (.cells #[.int .i64 65517] 3 (0, 0))).ownsRow w.heap.size 3 1 (.slice (some ⟨w.heap.size, 0, none⟩) 1 1) (0 + 1) (dvs (65517 :: List.replicate 0 65535)) from h0)
  clear h0
  go_enter Try.func46, Try.ntmps46
  go_wp2_with fail
  go_loopw [1, 2] (fun v i wr => ∃ j : Nat, j ≤ 14 ∧ i = .int .i64 j ∧ wr.ownsRow w.heap.size 3 1 v (j + 1) (dvs (65517 :: List.replicate j 65535)) ∧ Below w.heap.size w wr) (fun _ i _ => 14 - (intOf i).toNat)
  case atStart => exact ⟨0, by omega, rfl, O0.out, (Below.refl _ _).alloc (Nat.le_refl _) _⟩
  case round =>
    obtain ⟨j, hj, rfl, ho, hb⟩ := hrel
    have HO := Lib.hid ho
    have HB := Lib.hid hb
    have HJ := Lib.hid hj
    clear ho hb hj O0
    have hs0 : _ ≤ wr.heap.size := HB.out.size
    by_cases hlt : j < 14
    · have j1 : (j : Int) < 14 := by omega
      have j0 : (0 : Int) ≤ j := by omega
      have HLT := Lib.hid hlt
      have HML := Lib.hid (show j + 1 + 1 ≤ maxLen by unfold maxLen; omega)
      have HMB := Lib.hid (show (j + 1 + 1) * 8 ≤ 140737488355328 by omega)
      have HAL := Lib.hid (HO.out.alloc (.cells #[.int .i64 65535] 3 (0, 0)))
      clear hlt
      go_wp2_with (at_builtin; refine wpList_append_own _ rfl (.tmp 8) (.tmp 9) 26 rfl _ 3 i0 (.int .i64 0) 1 8 Try.underlying26 hi hz0 hz1 hz2 rfl (by decide) _ _ _ rfl HAL.out ⟨wr.heap.size, 0, none⟩ 1 1 [.int .i64 65535] rfl rfl (one_cell wr _ _) (one_one _ rfl) HML.out HMB.out (le_alloc hs0 _) ?_)
      intro v1 w1 h1 h2 h3
      have HB1 := Lib.hid (below_app HB.out _ _ _ _ _ HO.out h2)
      rw [show dvs (65517 :: List.replicate j 65535) ++ [.int .i64 65535] = dvs (65517 :: List.replicate (j + 1) 65535) by rw [List.replicate_succ']; simp [dvs]] at h1
      have HO1 := Lib.hid h1
      clear h1 h2 h3 hs0
      go_wp2_with fail
      go_roundw
      case rel => exact ⟨j + 1, HLT.out, by go_num, HO1.out, HB1.out⟩
      case measure => simp [intOf]; omega
    · have j1 : ¬ (j : Int) < 14 := by omega
      have hj14 : j = 14 := by have := HJ.out; omega
      subst hj14
      have HAL := Lib.hid (HO.out.alloc (.cells #[.int .i64 32767] 3 (0, 0)))
      clear hlt
      go_wp2_with (at_builtin; refine wpList_append_own _ rfl (.tmp 11) (.tmp 12) 26 rfl _ 3 i0 (.int .i64 0) 1 8 Try.underlying26 hi hz0 hz1 hz2 rfl (by decide) _ _ _ rfl HAL.out ⟨wr.heap.size, 0, none⟩ 1 1 [.int .i64 32767] rfl rfl (one_cell wr _ _) (one_one _ rfl) (by decide) (by decide) (le_alloc hs0 _) ?_)
      intro v1 w1 h1 h2 h3
      have HB1 := Lib.hid (below_app HB.out _ _ _ _ _ HO.out h2)
      have HO1 := Lib.hid (show w1.ownsRow w.heap.size 3 1 v1 16 (dvs (dgn 65536 16 Q')) by rw [prime_digits]; exact h1)
      clear h1 h2 h3 hs0
      go_wp2_with fail
      go_ret
      exact ⟨HB1.out, _, rfl, HO1.out⟩

set_option maxRecDepth 1000000 in
set_option maxHeartbeats 1000000 in
theorem rbelow_any (u v : Nat) (va vb : Value) (ba bb : Nat) (w : World) (ha : DS w ba va 16 u) (hb : DS w bb vb 16 v) :
    Calls Try.prog 54 #[va, vb] w fun e w' => e = .returned (.bool (decide (u < v))) ∧ Below w.heap.size w w' := by
  obtain ⟨ga, ca, rfl, -, -⟩ := ha.form
  obtain ⟨gb, cb, rfl, -, -⟩ := hb.form
  have HA := Lib.hid ha.cells
  have HB := Lib.hid hb.cells
  have HT := Lib.hid (show u / 65536 ^ 16 = v / 65536 ^ 16 by rw [Nat.div_eq_of_lt ha.2.1, Nat.div_eq_of_lt hb.2.1])
  clear ha hb
  generalize hbd : decide (u < v) = bd
  have HD := Lib.hid hbd
  clear hbd
  go_enter Try.func54, Try.ntmps54
  go_wp2_with fail
  go_loopw [5] (fun i wr => ∃ t : Nat, t ≤ 16 ∧ i = .int .i64 ((t : Int) - 1) ∧ u / 65536 ^ t = v / 65536 ^ t ∧ Below w.heap.size w wr) (fun i _ => (intOf i + 1).toNat)
  case atStart => exact ⟨16, by omega, rfl, HT.out, Below.refl _ _⟩
  case round =>
    obtain ⟨t, ht, rfl, he, hbl⟩ := hrel
    have HBL := Lib.hid hbl
    have HE := Lib.hid he
    clear hbl he HT
    cases t with
    | zero =>
      have hz : ((0 : Nat) : Int) - 1 = -1 := rfl
      rw [hz]
      have hd : false = bd := by
        have := HE.out
        rw [Nat.pow_zero, Nat.div_one, Nat.div_one] at this
        rw [← HD.out]
        exact (decide_eq_false (by omega)).symm
      have HF := Lib.hid hd
      clear hz hd
      go_wp2_with fail
      go_ret
      exact ⟨by rw [← HF.out]; rfl, HBL.out⟩
    | succ i =>
      rw [show ((i + 1 : Nat) : Int) - 1 = (i : Int) by omega]
      have i1 : (i : Int) < 16 := by omega
      have i0 : (0 : Int) ≤ i := by omega
      have cx := HA.out wr HBL.out i (by omega)
      have cy := HB.out wr HBL.out i (by omega)
      have H1 := Lib.hid (show u / 65536 ^ i % 65536 < v / 65536 ^ i % 65536 → u < v from lt_of_digit (by decide) HE.out)
      have H2 := Lib.hid (show v / 65536 ^ i % 65536 < u / 65536 ^ i % 65536 → v < u from lt_of_digit (by decide) HE.out.symm)
      have H3 := Lib.hid (show u / 65536 ^ i % 65536 = v / 65536 ^ i % 65536 → u / 65536 ^ i = v / 65536 ^ i from div_of_digit HE.out)
      clear HE
      generalize u / 65536 ^ i % 65536 = x at *
      generalize v / 65536 ^ i % 65536 = y at *
      by_cases hxy : x = y
      · subst hxy
        have HR := Lib.hid (H3.out rfl)
        clear H1 H2 H3
        go_wp2_with fail
        go_quiet (fail)
        have HQ := Lib.hid (below_drewN HBL.out nq)
        clear cx cy
        generalize wr.drewN nq = wq at *
        go_wp2_with fail
        go_roundw
        case rel => exact ⟨i, by omega, by go_num, HR.out, HQ.out⟩
        case measure => simp [intOf]
      · have hne : ¬ (x : Int) = (y : Int) := by omega
        have hd : decide (x < y) = bd := by
          rw [← HD.out]
          by_cases hl : x < y
          · rw [decide_eq_true hl, decide_eq_true (H1.out hl)]
          · have := H2.out (by omega)
            rw [decide_eq_false hl, decide_eq_false (by omega)]
        have HF := Lib.hid hd
        clear hd hxy H1 H2 H3
        go_wp2_with fail
        go_quiet (fail)
        have d1 : (wr.drewN nq).cell? ⟨ga, i, none⟩ = some (.int .i64 (x : Int)) := cx
        have d2 : (wr.drewN nq).cell? ⟨gb, i, none⟩ = some (.int .i64 (y : Int)) := cy
        have HQ := Lib.hid (below_drewN HBL.out nq)
        clear cx cy
        generalize wr.drewN nq = wq at *
        go_wp2_with fail
        go_quiet (fail)
        have HQ2 := Lib.hid (below_drewN HQ.out nq)
        generalize wq.drewN nq = wz at *
        go_wp2_with fail
        go_ret
        exact ⟨by rw [← HF.out]; rfl, HQ2.out⟩
end Go.Proofs.Ythlmphloalbhnaa
