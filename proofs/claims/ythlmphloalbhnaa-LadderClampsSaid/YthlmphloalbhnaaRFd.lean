/-
  mailsackref03.minus: the walk.
-/
import Derived.Test.YthlmphloalbhnaaRFc
import Derived.Deep.DeepCutAuto
namespace Go.Proofs.Ythlmphloalbhnaa
open Go.RowKit MS

set_option maxRecDepth 1000000 in
set_option maxHeartbeats 2000000 in
theorem rminus_any (u v : Nat) (va vb : Value) (ba bb : Nat) (w : World) (ha : DS w ba va 16 u) (hb : DS w bb vb 16 v) (hvu : v ≤ u) :
    Calls Try.prog 45 #[va, vb] w fun e w' => Below w.heap.size w w' ∧ ∃ r, e = .returned r ∧ w'.ownsRow w.heap.size 3 1 r 16 (dvs (dgn 65536 16 (u - v))) := by
  obtain ⟨i0, hi, hz0, hz1, hz2⟩ : ∃ i, Try.prog.info? 3 = some i ∧ i.zero = some (.int .i64 0) ∧ i.size = 1 ∧ i.bytes = 8 := ⟨_, rfl, rfl, rfl, rfl⟩
  obtain ⟨ga, ca, rfl, -, -⟩ := ha.form
  obtain ⟨gb, cb, rfl, -, -⟩ := hb.form
  have HA := Lib.hid ha.cells
  have HB := Lib.hid hb.cells
  have HVU := Lib.hid hvu
  have hown0 : w.ownsRow w.heap.size 3 1 (.slice none 0 0) 0 (dvs (dgn 65536 0 (u - v))) := World.ownsRow_nil _ _ _ _
  clear ha hb hvu
  go_enter Try.func45, Try.ntmps45
  go_wp2_with fail
  go_loopw [5, 6, 7] (fun x c i wr => ∃ j : Nat, j ≤ 16 ∧ i = .int .i64 j ∧ c = .int .i64 ((lent 65536 u v j : Nat) : Int) ∧ wr.ownsRow w.heap.size 3 1 x j (dvs (dgn 65536 j (u - v))) ∧ Below w.heap.size w wr) (fun _ _ i _ => 16 - (intOf i).toNat)
  case atStart => exact ⟨0, by omega, rfl, by rw [lent_zero]; rfl, hown0, Below.refl _ _⟩
  case round =>
    obtain ⟨j, hj, rfl, rfl, ho, hbl⟩ := hrel
    have HOWN := Lib.hid ho
    have HBL := Lib.hid hbl
    have HJ := Lib.hid hj
    clear ho hbl hown0 hj
    by_cases hlt : j < 16
    · have j1 : (j : Int) < 16 := by omega
      have j0 : (0 : Int) ≤ j := by omega
      have HLT := Lib.hid hlt
      have hx := dig_lt 65536 (by decide) u j
      have hy := dig_lt 65536 (by decide) v j
      have hd := dig_lt 65536 (by decide) (u - v) j
      have hS := sub_digit 65536 u v j (by decide) HVU.out
      have hL := lent_step 65536 u v j (by decide)
      have hD := dg_succ 65536 j (u - v)
      have hl1 : lent 65536 u v j ≤ 1 := by unfold lent; split <;> omega
      have cx := HA.out wr HBL.out j hlt
      have cy := HB.out wr HBL.out j hlt
      generalize u / 65536 ^ j % 65536 = x at *
      generalize v / 65536 ^ j % 65536 = y at *
      generalize (u - v) / 65536 ^ j % 65536 = d at *
      generalize lent 65536 u v j = l at *
      have HNEXT := Lib.hid (show ∀ (x1 : Value) (w1 : World), w1.ownsRow w.heap.size 3 1 x1 (j + 1) (dvs (dgn 65536 j (u - v)) ++ [.int .i64 (d : Int)]) → w1.ownsRow w.heap.size 3 1 x1 (j + 1) (dvs (dgn 65536 (j + 1) (u - v))) from by
        intro x1 w1 h
        rw [hD, dvs_app]
        exact h)
      have HL := Lib.hid hL
      have HML := Lib.hid (show j + 1 ≤ maxLen by unfold maxLen; omega)
      have HMB := Lib.hid (show (j + 1) * 8 ≤ 140737488355328 by omega)
      have x1 : (x : Int) < 65536 := by omega
      have x0 : (0 : Int) ≤ (x : Int) := by omega
      have y1 : (y : Int) < 65536 := by omega
      have y0 : (0 : Int) ≤ (y : Int) := by omega
      have l1 : (l : Int) ≤ 1 := by omega
      have l0 : (0 : Int) ≤ (l : Int) := by omega
      have d1 : (d : Int) < 65536 := by omega
      have d0 : (0 : Int) ≤ (d : Int) := by omega
      obtain ⟨t0, e0⟩ : ∃ t0 : Int, (x : Int) - (y : Int) = t0 := ⟨_, rfl⟩
      have t1 : t0 ≤ 65536 := by omega
      have t2 : -65536 ≤ t0 := by omega
      by_cases hn : x < y + l
      case' pos =>
        have e1 : lent 65536 u v (j + 1) = 1 := by rw [hL, if_pos hn]
        obtain ⟨t, e2⟩ : ∃ t : Int, t0 - (l : Int) = t := ⟨_, rfl⟩
        have en : t < 0 := by omega
        have en1 : -65537 ≤ t := by omega
        have es : t + 65536 = (d : Int) := by rw [e1] at hS; omega
        have HE := Lib.hid (show ((lent 65536 u v (j + 1) : Nat) : Int) = 1 by rw [e1]; rfl)
        have hb := Lib.hid (decide_eq_true en)
      case' neg =>
        have e1 : lent 65536 u v (j + 1) = 0 := by rw [hL, if_neg hn]
        have es : t0 - (l : Int) = (d : Int) := by rw [e1] at hS; omega
        have en : ¬ (d : Int) < 0 := by omega
        have HE := Lib.hid (show ((lent 65536 u v (j + 1) : Nat) : Int) = 0 by rw [e1]; rfl)
        have hb := Lib.hid (decide_eq_false en)
      all_goals
        clear e1 hn hx hy hd hS hL hD hl1 hlt HL
        go_upto_region 6 with fail
        go_quiet (fail)
        have HO2 := Lib.hid (show (wr.drewN nq).ownsRow _ _ _ _ _ _ from HOWN.out)
        have HQ := Lib.hid (below_drewN HBL.out nq)
        clear cx cy
        generalize wr.drewN nq = wq at *
        have hs0 : _ ≤ wq.heap.size := HQ.out.size
        have HAL := Lib.hid (HO2.out.alloc (.cells #[.int .i64 (d : Int)] 3 (0, 0)))
        clear e0 x1 x0 y1 y0 l1 l0 t1 t2 en
        go_upto_region 8 with fail
        have hb2 := hb.out
        go_upto_region 11 with fail
        go_wp2_with (at_builtin; refine wpList_append_own _ rfl (.tmp 28) (.tmp 30) 26 rfl _ 3 i0 (.int .i64 0) 1 8 Try.underlying26 hi hz0 hz1 hz2 rfl (by decide) _ _ _ rfl HAL.out ⟨wq.heap.size, 0, none⟩ 1 1 [.int .i64 (d : Int)] rfl rfl (one_cell wq _ _) (one_one _ rfl) HML.out HMB.out (le_alloc hs0 _) ?_)
        intro v1 w1 h1 h2 h3
        have HB1 := Lib.hid (below_app HQ.out _ _ _ _ _ HO2.out h2)
        have HO1 := Lib.hid (HNEXT.out _ _ h1)
        clear h1 h2 h3 hs0
        go_wp2_with fail
        go_roundw
        case rel => exact ⟨j + 1, HLT.out, by go_num, by rw [HE.out], HO1.out, HB1.out⟩
        case measure => simp [intOf]; omega
    · have j1 : ¬ (j : Int) < 16 := by omega
      have hj16 : j = 16 := by have := HJ.out; omega
      subst hj16
      clear hlt
      go_wp2_with fail
      go_ret
      exact ⟨HBL.out, _, rfl, HOWN.out⟩
end Go.Proofs.Ythlmphloalbhnaa
