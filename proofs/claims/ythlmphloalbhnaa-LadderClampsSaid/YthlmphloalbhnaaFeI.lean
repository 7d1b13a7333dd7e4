/-
  fe.Small, fe.squares, fe.Swap: the walks.
-/
import Derived.Test.YthlmphloalbhnaaFeM
import Derived.Test.YthlmphloalbhnaaPowP
namespace Go.Proofs.Ythlmphloalbhnaa
open Go.RowKit MS

set_option maxRecDepth 100000 in
set_option maxHeartbeats 1000000 in
theorem fesmall_any (x : N5) (n : Nat) (hx : x.ok) (hn : n < 4294967296) (w : World) :
    Calls Try.prog 20 #[.agg (nvA x), .int .u32 (n : Int)] w fun e w' => e = .returned (.agg (nvA (mul x ⟨n, 0, 0, 0, 0⟩))) ∧ Below w.heap.size w w' := by
  have M := Lib.hid (fun w => femul_any x ⟨n, 0, 0, 0, 0⟩ hx ⟨by show n < _; omega, by show 0 < _; decide, by show 0 < _; decide, by show 0 < _; decide, by show 0 < _; decide⟩ w)
  have R0 := Lib.hid (rw2 w (nvA x) (rowF (fun _ => 0)))
  have IX := Lib.hid (infoV x)
  have IM := Lib.hid (infoV (mul x ⟨n, 0, 0, 0, 0⟩))
  have OM := Lib.hid (one_nvA (mul x ⟨n, 0, 0, 0, 0⟩))
  have LM := Lib.hid (show (rowF (fun _ => 0)).size = (nvA (mul x ⟨n, 0, 0, 0, 0⟩)).size from rfl)
  have hn0 : (0 : Int) ≤ n := by omega
  have hn1 : (n : Int) ≤ 4294967295 := by omega
  rw [show nvA ⟨n, 0, 0, 0, 0⟩ = #[.int .u64 (n : Int), .int .u64 0, .int .u64 0, .int .u64 0, .int .u64 0] from rfl] at M
  generalize nvA (mul x ⟨n, 0, 0, 0, 0⟩) = rm at M IM OM LM ⊢
  generalize nvA x = rx at M R0 IX ⊢
  clear hx hn
  go_enter Try.func20, Try.ntmps20
  go_upto_region 1 with fail
  rw [show (w.alloc (.cells rx 24 (0, 0))).alloc (.cells #[.int .u64 0, .int .u64 0, .int .u64 0, .int .u64 0, .int .u64 0] 24 (0, 0)) = (w.alloc (.cells rx 24 (0, 0))).alloc (.cells (rowF (fun _ => 0)) 24 (0, 0)) from rfl]
  generalize (w.alloc (.cells rx 24 (0, 0))).alloc (.cells (rowF (fun _ => 0)) 24 (0, 0)) = W at R0 ⊢
  have RA := Lib.hid (R0.out.row 0)
  go_wp2_with (with_reducible refine wpList_load_row rfl 24 (.tmp 2) rfl w.heap.size rfl 24 rx (0, 0) _ RA.out Try.underlying24 rfl IX.out ?_)
  refine (M.out _).mono ?_
  rintro e w5 ⟨rfl, hb5⟩
  have R1 := Lib.hid (R0.out.on hb5)
  have RB := Lib.hid (R1.out.row 1)
  clear hb5
  go_wp2_with (with_reducible refine wpList_store_row rfl 24 (.tmp 4) (.tmp 9) rfl (w.heap.size + 1) rm rfl rfl 24 (rowF (fun _ => 0)) RB.out IM.out LM.out OM.out ?_)
  have R2 := R1.out.store 1 rm
  exact bodyPost_ret (results_cell_row rfl _ _ (w.heap.size + 1) 24 rm (0, 0) _ rfl (R2.row 1) Try.underlying24 rfl IM.out) rfl ⟨rfl, R2.bel⟩

theorem sqs_ok {x : N5} (hx : x.ok) (n : Nat) : (sqs x n).ok := by
  induction n with
  | zero => exact hx
  | succ n ih => exact nar_ok (mul_nar ih ih)
set_option maxRecDepth 100000 in
set_option maxHeartbeats 1000000 in
theorem squares_any (x : N5) (n : Nat) (hx : x.ok) (hn : n ≤ 1000) (w : World) :
    Calls Try.prog 47 #[.agg (nvA x), .int .i64 (n : Int)] w fun e w' => e = .returned (.agg (nvA (sqs x n))) ∧ Below w.heap.size w w' := by
  have M := Lib.hid (fun k w => femul_any (sqs x k) (sqs x k) (sqs_ok hx k) (sqs_ok hx k) w)
  have R0 := Lib.hid (show Rw w [(w.heap.size, nvA (sqs x 0), 24), (w.heap.size + 1, rowF (fun _ => 0), 24)] ((w.alloc (.cells (nvA x) 24 (0, 0))).alloc (.cells (rowF (fun _ => 0)) 24 (0, 0))) from rw2 w (nvA x) (rowF (fun _ => 0)))
  have HM := Lib.hid (show ∀ k, mul (sqs x k) (sqs x k) = sqs x (k + 1) from fun k => rfl)
  have II := Lib.hid (fun y => infoV y)
  have OO := Lib.hid (fun y => one_nvA y)
  have hn1 : (n : Int) ≤ 1000 := by omega
  have HN := Lib.hid hn
  generalize hs : sqs x = s at M R0 HM ⊢
  clear hs hx hn
  go_enter Try.func47, Try.ntmps47
  go_upto_region 1 with fail
  rw [show (w.alloc (.cells (nvA x) 24 (0, 0))).alloc (.cells #[.int .u64 0, .int .u64 0, .int .u64 0, .int .u64 0, .int .u64 0] 24 (0, 0)) = (w.alloc (.cells (nvA x) 24 (0, 0))).alloc (.cells (rowF (fun _ => 0)) 24 (0, 0)) from rfl]
  generalize (w.alloc (.cells (nvA x) 24 (0, 0))).alloc (.cells (rowF (fun _ => 0)) 24 (0, 0)) = W at R0 ⊢
  generalize hA : w.heap.size = ga at *
  generalize hB : ga + 1 = gb at *
  clear hA hB
  go_wp2_with fail
  go_loopw [6] (fun c wr => ∃ k : Nat, k ≤ n ∧ c = .int .i64 k ∧ Rw w [(ga, nvA (s k), 24), (gb, rowF (fun _ => 0), 24)] wr) (fun c _ => n - (intOf c).toNat)
  case atStart => exact ⟨0, by omega, rfl, R0.out⟩
  case round =>
    obtain ⟨k, hk, rfl, hr⟩ := hrel
    have R1 := Lib.hid hr
    have RA := Lib.hid (hr.row 0)
    clear hr R0
    by_cases hlt : k < n
    · have k1 : (k : Int) < n := by omega
      have k0 : (0 : Int) ≤ k := by omega
      have HLT := Lib.hid hlt
      have IS := Lib.hid (II.out (s k))
      have IN := Lib.hid (II.out (s (k + 1)))
      have ON := Lib.hid (OO.out (s (k + 1)))
      have LN := Lib.hid (show (nvA (s k)).size = (nvA (s (k + 1))).size from rfl)
      clear hlt hk
      go_wp2_with (with_reducible refine wpList_load_row rfl 24 (.tmp 2) rfl ga rfl 24 (nvA (s k)) (0, 0) _ RA.out Try.underlying24 rfl IS.out ?_)
      refine (M.out k _).mono ?_
      rintro e w5 ⟨rfl, hb5⟩
      rw [HM.out k]
      have R2 := Lib.hid (R1.out.on hb5)
      have RB := Lib.hid (R2.out.row 0)
      have R3 := Lib.hid (R2.out.store 0 (nvA (s (k + 1))))
      clear hb5
      go_wp2_with (with_reducible refine wpList_store_row rfl 24 (.tmp 2) (.tmp 10) rfl ga (nvA (s (k + 1))) rfl rfl 24 (nvA (s k)) RB.out IN.out LN.out ON.out ?_)
      go_roundw
      case rel => exact ⟨k + 1, HLT.out, by go_num, R3.out⟩
      case measure => simp [intOf]; omega
    · have k1 : ¬ ((k : Int) < n) := by omega
      have hkn : k = n := by omega
      rw [hkn] at R1 RA
      have RB := Lib.hid (R1.out.row 1)
      have IS := Lib.hid (II.out (s n))
      have OS := Lib.hid (OO.out (s n))
      have LS := Lib.hid (show (rowF (fun _ => 0)).size = (nvA (s n)).size from rfl)
      clear hkn hlt hk
      go_wp2_with (first
        | (with_reducible refine wpList_load_row rfl 24 (.tmp 2) rfl ga rfl 24 (nvA (s n)) (0, 0) _ RA.out Try.underlying24 rfl IS.out ?_)
        | (with_reducible refine wpList_store_row rfl 24 (.tmp 4) (.tmp 12) rfl gb (nvA (s n)) rfl rfl 24 (rowF (fun _ => 0)) RB.out IS.out LS.out OS.out ?_))
      have R4 := R1.out.store 1 (nvA (s n))
      exact bodyPost_ret (results_cell_row rfl _ _ gb 24 (nvA (s n)) (0, 0) _ rfl (R4.row 1) Try.underlying24 rfl IS.out) rfl ⟨rfl, R4.bel⟩
end Go.Proofs.Ythlmphloalbhnaa
