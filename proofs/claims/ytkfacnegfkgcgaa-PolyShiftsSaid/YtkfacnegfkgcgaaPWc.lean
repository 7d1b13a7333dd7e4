/-
  poly.carry: the walk.
-/
import Derived.Test.YtkfacnegfkgcgaaPWb
namespace Go.Proofs.Ytkfacnegfkgcgaa
open Go.RowKit MS

theorem rwL2 (w : World) (r0 r1 : Array Value) : Rw w [(w.heap.size, r0, 61), (w.heap.size + 1, r1, 61)] ((w.alloc (.cells r0 61 (0, 0))).alloc (.cells r1 61 (0, 0))) := by
  have h := ((Rw.nil w).alloc r0 61).alloc r1 61
  simpa using h
theorem upd_upd (F : Nat → Nat) (j a b : Nat) : upd (upd F j a) j b = upd F j b := by
  funext i
  unfold upd
  split <;> rfl

set_option maxRecDepth 100000 in
set_option maxHeartbeats 1000000 in
theorem carry_row (X : Nat → Nat) (hX : ∀ j, X j < 4611686018427387904) (w : World) :
    Calls Try.prog 55 #[.agg (rowF X)] w fun e w' => e = .returned (.agg (rowF (upd (cvG X) 0 (cvG X 0 + 5 * cvN X 5)))) ∧ Below w.heap.size w w' := by
  have R0 := Lib.hid (rwL2 w (rowF X) #[.int .u64 0, .int .u64 0, .int .u64 0, .int .u64 0, .int .u64 0])
  have BX := Lib.hid hX
  have BC := Lib.hid (cvN_le X hX)
  have HV := Lib.hid (show rowF X = rowF X from rfl)
  generalize hrx : rowF X = rx at R0 ⊢
  have HRX := Lib.hid hrx
  clear hX hrx HV
  obtain ⟨rl, hrl⟩ : ∃ rl, rowF (upd (cvG X) 0 (cvG X 0 + 5 * cvN X 5)) = rl := ⟨_, rfl⟩
  rw [hrl]
  have HRL := Lib.hid hrl
  have IR := Lib.hid (show (Try.prog.info? 61).map (·.size) = some rl.size from by rw [← hrl]; exact infoL _)
  have OR := Lib.hid (show rl.all (·.oneCell') = true from by rw [← hrl]; exact one_rowF _)
  have LR := Lib.hid (show (#[.int .u64 0, .int .u64 0, .int .u64 0, .int .u64 0, .int .u64 0] : Array Value).size = rl.size from by rw [← hrl]; rfl)
  clear hrl
  go_enter Try.func55, Try.ntmps55
  go_upto_region 2 with fail
  generalize (w.alloc (.cells rx 61 (0, 0))).alloc (.cells #[.int .u64 0, .int .u64 0, .int .u64 0, .int .u64 0, .int .u64 0] 61 (0, 0)) = W at R0 ⊢
  have R1 := Lib.hid (show Rw w [(w.heap.size, rowF (prog X (cvG X) 0), 61), (w.heap.size + 1, #[.int .u64 0, .int .u64 0, .int .u64 0, .int .u64 0, .int .u64 0], 61)] W from by rw [prog_zero, HRX.out]; exact R0.out)
  clear R0
  generalize hA : w.heap.size = ga at *
  generalize hB : ga + 1 = gb at *
  have HA := Lib.hid hA
  clear hA hB
  go_wp2_with fail
  go_loopw [3, 5] (fun o i wr => ∃ j : Nat, j ≤ 5 ∧ i = .int .i64 j ∧ o = .int .u64 (cvN X j : Nat) ∧ Rw w [(ga, rowF (prog X (cvG X) j), 61), (gb, #[.int .u64 0, .int .u64 0, .int .u64 0, .int .u64 0, .int .u64 0], 61)] wr) (fun _ i _ => 5 - (intOf i).toNat)
  case atStart => exact ⟨0, by omega, rfl, rfl, R1.out⟩
  case round =>
    obtain ⟨j, hj, rfl, rfl, hr⟩ := hrel
    have R4 := Lib.hid hr
    clear hr R1
    by_cases hlt : j < 5
    · have j1 : (j : Int) < 5 := by omega
      have j0 : (0 : Int) ≤ j := by omega
      have cj := R4.out.cell 0 j (rowF_get _ j hlt)
      have fj := R4.out.free 0 j
      rw [prog_at] at cj
      have bj := BX.out j
      have lo := BC.out j
      have put := R4.out.put 0 j (.int .u64 ((X j + cvN X j : Nat) : Int))
      rw [rowF_set _ _ _ hlt] at put
      have ck := put.cell 0 j (rowF_get _ j hlt)
      have fk := put.free 0 j
      rw [show upd (prog X (cvG X) j) j (X j + cvN X j) j = X j + cvN X j from if_pos rfl] at ck
      have put2 := put.put 0 j (.int .u64 ((cvG X j : Nat) : Int))
      simp only [List.set_cons_zero] at put2
      rw [rowF_set _ _ _ hlt, upd_upd, prog_set] at put2
      have PUT := Lib.hid put2
      have hS : ∃ S, X j + cvN X j = S := ⟨_, rfl⟩
      obtain ⟨S, hS⟩ := hS
      have qs : (X j : Int) + (cvN X j : Int) = (S : Int) := by omega
      have hs : (S : Int) / 67108864 = ((cvN X (j + 1) : Nat) : Int) := by rw [show cvN X (j + 1) = (X j + cvN X j) / 67108864 from rfl]; omega
      have ha : bits .and .u64 (S : Int) 67108863 = ((cvG X j : Nat) : Int) := by
        rw [← hS, and26 (X j + cvN X j) (by omega)]
        rfl
      have bS : (S : Int) < 4611686155866341376 := by omega
      rw [hS] at ck fk PUT put
      have HLT := Lib.hid hlt
      generalize X j = xj at cj bj qs
      generalize cvN X j = oj at lo qs ⊢
      generalize cvG X j = gj at PUT ha
      generalize ho : cvN X (j + 1) = oj1 at hs
      have HO := Lib.hid ho
      have o0 : (0 : Int) ≤ (oj : Int) := by omega
      have x0 : (0 : Int) ≤ (xj : Int) := by omega
      clear hlt hj ho put put2 hS bj lo
      go_upto_region 6 with fail
      generalize wr.setCell ⟨ga, j, none⟩ (.int .u64 (S : Int)) = w6 at ck fk PUT ⊢
      clear cj fj qs
      go_wp2_with fail
      go_roundw
      case rel => exact ⟨j + 1, HLT.out, by go_num, by rw [HO.out], PUT.out⟩
      case measure => simp [intOf]; omega
    · have j1 : ¬ ((j : Int) < 5) := by omega
      have hj5 : j = 5 := by omega
      have r5 := R4.out
      rw [hj5, prog_end] at r5
      have c0 := r5.cell 0 0 (rowF_get _ 0 (by decide))
      have f0 := r5.free 0 0
      have put := r5.put 0 0 (.int .u64 ((cvG X 0 + 5 * cvN X 5 : Nat) : Int))
      rw [rowF_set _ _ _ (by decide)] at put
      simp only [List.set_cons_zero] at put
      have l5 := BC.out 5
      have g0 : cvG X 0 < 67108864 := Nat.mod_lt _ (by decide)
      rw [HRL.out] at put
      rw [hj5]
      have hq : ((cvG X 0 : Nat) : Int) + 5 * ((cvN X 5 : Nat) : Int) = ((cvG X 0 + 5 * cvN X 5 : Nat) : Int) := by omega
      have HQ := Lib.hid hq
      rw [← HQ.out] at put
      have PUT := Lib.hid put
      generalize cvG X 0 = y0 at *
      generalize cvN X 5 = o5 at *
      clear put r5 hj5 hlt hj R4 hq
      go_upto_region 10 with fail
      generalize World.setCell _ _ _ = w9 at PUT ⊢
      have RWA := Lib.hid (PUT.out.row 0)
      have RWB := Lib.hid (PUT.out.row 1)
      clear c0 f0
      go_wp2_with (first
        | (with_reducible refine wpList_load_row rfl 61 (.tmp 1) rfl ga rfl 61 rl (0, 0) _ RWA.out Try.underlying61 rfl IR.out ?_)
        | (with_reducible refine wpList_store_row rfl 61 (.tmp 2) (.tmp 30) rfl gb rl rfl rfl 61 #[.int .u64 0, .int .u64 0, .int .u64 0, .int .u64 0, .int .u64 0] RWB.out IR.out LR.out OR.out ?_))
      have R6 := PUT.out.store 1 rl
      exact bodyPost_ret (results_cell_row rfl _ _ gb 61 rl (0, 0) _ rfl (R6.row 1) Try.underlying61 rfl IR.out) rfl ⟨rfl, HA.out ▸ R6.bel⟩
theorem carry_any (x : L5) (hx : ∀ j, getL x j < 4611686018427387904) (w : World) :
    Calls Try.prog 55 #[.agg (lvA x)] w fun e w' => e = .returned (.agg (lvA (carL x))) ∧ Below w.heap.size w w' := by
  have h := carry_row (getL x) hx w
  rw [carL_row] at h
  exact h
end Go.Proofs.Ytkfacnegfkgcgaa
