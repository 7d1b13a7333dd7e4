/-
  fe.least, fe.squares, fe.Swap: the walks.
-/
import Derived.Test.YthlmphloalbhnaaFeA
namespace Go.Proofs.Ythlmphloalbhnaa
open Go.RowKit MS

/-- What is carried out of the places below j, 19 more at the start. -/
def ovN (X : Nat → Nat) : Nat → Nat
  | 0 => 19
  | j + 1 => (X j + ovN X j) / 2251799813685248
def crN (X : Nat → Nat) (k : Nat) : Nat → Nat
  | 0 => k
  | j + 1 => (X j + crN X k j) / 2251799813685248
def crG (X : Nat → Nat) (k j : Nat) : Nat := (X j + crN X k j) % 2251799813685248
theorem ovN_le (X : Nat → Nat) (h : ∀ j, X j < 2251799813947392) (j : Nat) : ovN X j ≤ 19 := by
  induction j with
  | zero => exact Nat.le_refl _
  | succ j ih => have := h j; rw [ovN]; omega
theorem ovN_1 (X : Nat → Nat) (h : ∀ j, X j < 2251799813947392) (j : Nat) : ovN X (j + 1) ≤ 1 := by
  have := h j; have := ovN_le X h j; rw [ovN]; omega
theorem crN_le (X : Nat → Nat) (h : ∀ j, X j < 2251799813947392) (k : Nat) (hk : k ≤ 19) (j : Nat) : crN X k j ≤ 19 := by
  induction j with
  | zero => exact hk
  | succ j ih => have := h j; rw [crN]; omega
theorem over_ovN (x : N5) : over x = ovN (getN x) 5 := by
  simp only [over, ovN, getN, Nat.add_comm]
theorem row_carried (x : N5) (k : Nat) : rowF (crG (getN x) k) = nvA (carried x k) := rfl
theorem rw2 (w : World) (r0 r1 : Array Value) : Rw w [(w.heap.size, r0, 24), (w.heap.size + 1, r1, 24)] ((w.alloc (.cells r0 24 (0, 0))).alloc (.cells r1 24 (0, 0))) := by
  have h := ((Rw.nil w).alloc r0 24).alloc r1 24
  simpa using h

set_option maxRecDepth 100000 in
set_option maxHeartbeats 1000000 in
theorem least_any (x : N5) (hx : x.ok) (w : World) :
    Calls Try.prog 38 #[.agg (nvA x)] w fun e w' => e = .returned (.agg (nvA (least x))) ∧ Below w.heap.size w w' := by
  have NX := Lib.hid (fun w => narrow_any x hx w)
  have R0 := Lib.hid (rw2 w (nvA x) #[.int .u64 0, .int .u64 0, .int .u64 0, .int .u64 0, .int .u64 0])
  have IX := Lib.hid (infoV x)
  have SX := Lib.hid (size_nvA x)
  have BX := Lib.hid (nar_get (narrow_nar hx))
  have IN := Lib.hid (infoV (narrow x))
  have ON := Lib.hid (one_nvA (narrow x))
  have HRES := Lib.hid (show rowF (crG (getN (narrow x)) (19 * ovN (getN (narrow x)) 5)) = nvA (least x) by rw [row_carried, least, over_ovN])
  have IL := Lib.hid (infoV (least x))
  have OL := Lib.hid (one_nvA (least x))
  have LL := Lib.hid (show (#[.int .u64 0, .int .u64 0, .int .u64 0, .int .u64 0, .int .u64 0] : Array Value).size = (nvA (least x)).size from rfl)
  have HV := Lib.hid (nvA_row (narrow x))
  generalize hrx : nvA x = rx at NX R0 IX SX ⊢
  have LX := Lib.hid (show rx.size = (nvA (narrow x)).size by rw [SX.out]; rfl)
  generalize hn : nvA (narrow x) = rn at NX IN ON LX HV ⊢
  generalize hl : nvA (least x) = rl at HRES IL OL LL ⊢
  generalize hX : getN (narrow x) = X at *
  clear hrx hn hl hX hx
  go_enter Try.func38, Try.ntmps38
  go_upto_region 1 with fail
  generalize (w.alloc (.cells rx 24 (0, 0))).alloc (.cells #[.int .u64 0, .int .u64 0, .int .u64 0, .int .u64 0, .int .u64 0] 24 (0, 0)) = W at R0 ⊢
  have RW0 := Lib.hid (R0.out.row 0)
  go_wp2_with (with_reducible refine wpList_load_row rfl 24 (.tmp 1) rfl w.heap.size rfl 24 rx (0, 0) _ RW0.out Try.underlying24 rfl IX.out ?_)
  refine (NX.out _).mono ?_
  rintro e w5 ⟨rfl, hb5⟩
  have R1 := Lib.hid (R0.out.on hb5)
  have RW1 := Lib.hid (R1.out.row 0)
  have R2 := Lib.hid (R1.out.store 0 rn)
  clear hb5
  go_upto_region 2 with (with_reducible refine wpList_store_row rfl 24 (.tmp 1) (.tmp 9) rfl w.heap.size rn rfl rfl 24 rx RW1.out IN.out LX.out ON.out ?_)
  have r3 := R2.out
  simp only [List.set_cons_zero] at r3
  generalize World.setRow w5 _ rn = w6 at r3 ⊢
  rw [HV.out] at r3
  generalize hA : w.heap.size = ga at *
  generalize hB : ga + 1 = gb at *
  clear hA hB R0 RW0 R1 RW1 R2
  have R3 := Lib.hid r3
  have c0 := r3.cell 0 0 (rowF_get _ 0 (by decide))
  have b0 := BX.out 0
  have h0 : ((X 0 : Int) + 19) / 2251799813685248 = ((ovN X 1 : Nat) : Int) := by rw [ovN, ovN]; omega
  have HO1 := Lib.hid (show ovN X 1 = ovN X 1 from rfl)
  generalize hx0 : X 0 = x0 at c0 b0 h0
  generalize ho1 : ovN X 1 = o1 at h0
  have HOO := Lib.hid ho1
  clear r3 ho1 hx0 HO1
  go_wp2_with fail
  clear c0 b0 h0
  go_loop [3, 4] (fun o i => ∃ j : Nat, 1 ≤ j ∧ j ≤ 5 ∧ i = .int .i64 j ∧ o = .int .u64 (ovN X j : Nat)) (fun _ i => 5 - (intOf i).toNat)
  case atStart => exact ⟨1, by omega, by omega, rfl, by rw [HOO.out]⟩
  case round =>
    obtain ⟨j, hj1, hj, rfl, rfl⟩ := hrel
    clear HOO
    by_cases hlt : j < 5
    · have j1 : (j : Int) < 5 := by omega
      have j0 : (0 : Int) ≤ j := by omega
      have cj := R3.out.cell 0 j (rowF_get _ j hlt)
      have bj := BX.out j
      have lo := ovN_le X BX.out j
      have hs : ((X j : Int) + (ovN X j : Int)) / 2251799813685248 = ((ovN X (j + 1) : Nat) : Int) := by rw [show ovN X (j + 1) = (X j + ovN X j) / 2251799813685248 from rfl]; omega
      have HLT := Lib.hid hlt
      have HJ1 := Lib.hid hj1
      generalize X j = xj at cj bj hs
      generalize ovN X j = oj at lo hs
      generalize ho : ovN X (j + 1) = oj1 at hs
      have HO := Lib.hid ho
      clear hlt hj1 hj ho
      go_wp2_with fail
      go_round
      case rel => exact ⟨j + 1, by omega, HLT.out, by go_num, by rw [HO.out]⟩
      case measure => simp [intOf]; omega
    · have j1 : ¬ ((j : Int) < 5) := by omega
      have hj5 : j = 5 := by omega
      have l1 := ovN_1 X BX.out 4
      rw [show 4 + 1 = 5 from rfl] at l1
      rw [hj5]
      have CL := Lib.hid (crN_le X BX.out (19 * ovN X 5) (by omega))
      have hk : 19 * (ovN X 5 : Int) = ((19 * ovN X 5 : Nat) : Int) := by omega
      have kk : 19 * ovN X 5 ≤ 19 := by omega
      generalize hK : 19 * ovN X 5 = k at *
      have HK := Lib.hid hk
      generalize ovN X 5 = o5 at *
      clear hj5 hlt hj1 hj hk hK
      go_wp2_with fail
      rw [HK.out]
      go_loopw [5, 26] (fun c i wr => ∃ j : Nat, j ≤ 5 ∧ i = .int .i64 j ∧ c = .int .u64 (crN X k j : Nat) ∧ Rw w [(ga, rowF (prog X (crG X k) j), 24), (gb, #[.int .u64 0, .int .u64 0, .int .u64 0, .int .u64 0, .int .u64 0], 24)] wr) (fun _ i _ => 5 - (intOf i).toNat)
      case atStart => exact ⟨0, by omega, rfl, rfl, by rw [prog_zero]; exact R3.out⟩
      case round =>
        obtain ⟨j, hj, rfl, rfl, hr⟩ := hrel
        have R4 := Lib.hid hr
        clear hr R3
        by_cases hlt : j < 5
        · have j1 : (j : Int) < 5 := by omega
          have j0 : (0 : Int) ≤ j := by omega
          have cj := R4.out.cell 0 j (rowF_get _ j hlt)
          have fj := R4.out.free 0 j
          rw [prog_at] at cj
          have bj := BX.out j
          have lo := CL.out j
          have put := R4.out.put 0 j (.int .u64 ((crG X k j : Nat) : Int))
          rw [rowF_set _ _ _ hlt, prog_set] at put
          have PUT := Lib.hid put
          have hs : ((X j : Int) + (crN X k j : Int)) / 2251799813685248 = ((crN X k (j + 1) : Nat) : Int) := by rw [show crN X k (j + 1) = (X j + crN X k j) / 2251799813685248 from rfl]; omega
          have ha : bits .and .u64 ((X j : Int) + (crN X k j : Int)) 2251799813685247 = ((crG X k j : Nat) : Int) := by
            have := and51 (X j + crN X k j) (by omega)
            rw [Int.natCast_add] at this
            exact this
          have HLT := Lib.hid hlt
          generalize X j = xj at cj bj hs ha
          generalize crN X k j = oj at lo hs ha
          generalize crG X k j = gj at PUT ha put
          generalize ho : crN X k (j + 1) = oj1 at hs
          have HO := Lib.hid ho
          clear hlt hj ho put
          go_wp2_with fail
          go_roundw
          case rel => exact ⟨j + 1, HLT.out, by go_num, by rw [HO.out], PUT.out⟩
          case measure => simp [intOf]; omega
        · have j1 : ¬ ((j : Int) < 5) := by omega
          have hj5 : j = 5 := by omega
          have r5 := R4.out
          rw [hj5, prog_end, HRES.out] at r5
          have R5 := Lib.hid r5
          have RW5 := Lib.hid (r5.row 0)
          have RW6 := Lib.hid (r5.row 1)
          clear r5 hj5 hlt hj R4
          go_wp2_with (first
            | (with_reducible refine wpList_load_row rfl 24 (.tmp 1) rfl ga rfl 24 rl (0, 0) _ RW5.out Try.underlying24 rfl IL.out ?_)
            | (with_reducible refine wpList_store_row rfl 24 (.tmp 2) (.tmp 41) rfl gb rl rfl rfl 24 #[.int .u64 0, .int .u64 0, .int .u64 0, .int .u64 0, .int .u64 0] RW6.out IL.out LL.out OL.out ?_))
          have R6 := R5.out.store 1 rl
          exact bodyPost_ret (results_cell_row rfl _ _ gb 24 rl (0, 0) _ rfl (R6.row 1) Try.underlying24 rfl IL.out) rfl ⟨rfl, R6.bel⟩
end Go.Proofs.Ythlmphloalbhnaa
