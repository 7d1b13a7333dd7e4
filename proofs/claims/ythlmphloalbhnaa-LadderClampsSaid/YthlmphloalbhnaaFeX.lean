/-
  mailsacklaw03.FeNegs: the walk.
-/
import Derived.Test.YthlmphloalbhnaaFeW
namespace Go.Proofs.Ythlmphloalbhnaa
open Go.RowKit MS

theorem small_ok (n : Nat) (h : n < 18446744073709551616) : (⟨n, 0, 0, 0, 0⟩ : N5).ok := ⟨h, by show 0 < _; decide, by show 0 < _; decide, by show 0 < _; decide, by show 0 < _; decide⟩
set_option maxRecDepth 100000 in
set_option maxHeartbeats 2000000 in
theorem fenegs_any (a : N5) (ha : a.ok) (n : Nat) (hn : n < 4294967296) (m : Nat) (hm : m < 4294967296) (w : World) :
    Calls Try.prog 6 #[.agg (nvA a), .int .u32 (n : Int), .int .u32 (m : Int)] w fun e w' => e = .returned (.bool true) ∧ Below w.heap.size w w' := by
  have A := Lib.hid (fun w => awake03_any w)
  have C1 := Lib.hid (fun w => fesub_any a a ha ha w)
  have B1 := Lib.hid (fun w => febytes_any (sub a a) (sub_ok ha) w)
  have B2 := Lib.hid (fun w => febytes_any n0 n0_ok w)
  have C2 := Lib.hid (fun w => fesub_any n0 a n0_ok ha w)
  have C3 := Lib.hid (fun w => fesub_any n0 (sub n0 a) n0_ok (sub_ok n0_ok) w)
  have B3 := Lib.hid (fun w => febytes_any (sub n0 (sub n0 a)) (sub_ok n0_ok) w)
  have B4 := Lib.hid (fun w => febytes_any a ha w)
  have C4 := Lib.hid (fun w => fesmall_any a n ha hn w)
  have C5 := Lib.hid (fun w => fesmall_any a m ha hm w)
  have C6 := Lib.hid (fun w => feadd_any (mul a ⟨n, 0, 0, 0, 0⟩) (mul a ⟨m, 0, 0, 0, 0⟩) (mul_ok ha (small_ok (n) (by omega))) (mul_ok ha (small_ok (m) (by omega))) w)
  have B5 := Lib.hid (fun w => febytes_any (add (mul a ⟨n, 0, 0, 0, 0⟩) (mul a ⟨m, 0, 0, 0, 0⟩)) (add_ok (mul_ok ha (small_ok (n) (by omega))) (mul_ok ha (small_ok (m) (by omega)))) w)
  have C7 := Lib.hid (fun w => femul_any a ⟨n + m, 0, 0, 0, 0⟩ ha (small_ok (n + m) (by omega)) w)
  have B6 := Lib.hid (fun w => febytes_any (mul a ⟨n + m, 0, 0, 0, 0⟩) (mul_ok ha (small_ok (n + m) (by omega))) w)
  have C8 := Lib.hid (fun w => fesmall_any a 2 ha (by decide) w)
  have B7 := Lib.hid (fun w => febytes_any (mul a ⟨2, 0, 0, 0, 0⟩) (mul_ok ha (small_ok (2) (by omega))) w)
  have C9 := Lib.hid (fun w => feadd_any a a ha ha w)
  have B8 := Lib.hid (fun w => febytes_any (add a a) (add_ok ha ha) w)
  rw [feB_em (em_sub_self ha)] at B1
  rw [feB_em (em_sub_sub ha (sub_ok n0_ok))] at B3
  rw [feB_em (em_small a n m)] at B5
  rw [feB_em (em_twice a)] at B7
  rw [show nvA ⟨n + m, 0, 0, 0, 0⟩ = #[.int .u64 ((n : Int) + (m : Int)), .int .u64 0, .int .u64 0, .int .u64 0, .int .u64 0] from rfl] at C7
  rw [show ((2 : Nat) : Int) = 2 from rfl] at C8
  have hn0 : (0 : Int) ≤ n := by omega
  have hm0 : (0 : Int) ≤ m := by omega
  have hn1 : (n : Int) ≤ 4294967295 := by omega
  have hm1 : (m : Int) ≤ 4294967295 := by omega
  generalize feB n0 = E0 at *
  generalize feB a = E3 at *
  generalize feB (mul a ⟨n + m, 0, 0, 0, 0⟩) = E5 at *
  generalize feB (add a a) = E6 at *
  have IA := Lib.hid (infoV a)
  have IZ := Lib.hid (infoV n0)
  have R0 := Lib.hid (show Rw w [(w.heap.size, nvA a, 24), (w.heap.size + 1, nvA n0, 24)] ((w.alloc (.cells (nvA a) 24 (0, 0))).alloc (.cells #[.int .u64 0, .int .u64 0, .int .u64 0, .int .u64 0, .int .u64 0] 24 (0, 0))) from rw2 w (nvA a) (nvA n0))
  generalize nvA (add (mul a ⟨n, 0, 0, 0, 0⟩) (mul a ⟨m, 0, 0, 0, 0⟩)) = x1 at *
  generalize nvA (mul a ⟨n + m, 0, 0, 0, 0⟩) = x2 at *
  generalize nvA (mul a ⟨n, 0, 0, 0, 0⟩) = x3 at *
  generalize nvA (mul a ⟨m, 0, 0, 0, 0⟩) = x4 at *
  generalize nvA (mul a ⟨2, 0, 0, 0, 0⟩) = x5 at *
  generalize nvA (add a a) = x6 at *
  generalize nvA (sub n0 (sub n0 a)) = x7 at *
  generalize nvA (sub n0 a) = x8 at *
  generalize nvA (sub a a) = x9 at *
  generalize nvA a = ra at *
  generalize nvA n0 = rz at *
  clear ha hn hm
  go_enter Try.func6, Try.ntmps6
  go_upto_region 2 with fail
  generalize (w.alloc (.cells ra 24 (0, 0))).alloc (.cells #[.int .u64 0, .int .u64 0, .int .u64 0, .int .u64 0, .int .u64 0] 24 (0, 0)) = W at R0 ⊢
  generalize w.heap.size + 1 = gz at *
  generalize hga : w.heap.size = ga at *
  have RR := R0
  clear hga
  refine wp_region_below (by kernel_rfl) (by kernel_rfl) ?_
  go_big_quiet_want
  refine quiet_load_row 24 (.tmp 3) (by rfl) ga (by rfl) 24 ra (0, 0) _ ?hC Try.underlying24 rfl IA.out ?_
  case hC => rintro w' ⟨p, rfl⟩; exact (RR.out.on p.2).row 0
  simp only [Act.put, List.setIfInBounds_toArray, List.set_cons_zero, List.set_cons_succ]
  go_big_quiet_on
  go_big_quiet_want
  refine quiet_load_row 24 (.tmp 3) (by rfl) ga (by rfl) 24 ra (0, 0) _ ?hC Try.underlying24 rfl IA.out ?_
  case hC => rintro w' ⟨p, rfl⟩; exact (RR.out.on p.2).row 0
  simp only [Act.put, List.setIfInBounds_toArray, List.set_cons_zero, List.set_cons_succ]
  go_big_quiet_on
  go_big_quiet_step (exact calls_below (C1.out _))
  go_big_quiet_step (exact calls_below (B1.out _))
  go_big_quiet_want
  refine quiet_load_row 24 (.tmp 7) (by rfl) gz (by rfl) 24 rz (0, 0) _ ?hC Try.underlying24 rfl IZ.out ?_
  case hC => rintro w' ⟨p, rfl⟩; exact (RR.out.on p.2).row 1
  simp only [Act.put, List.setIfInBounds_toArray, List.set_cons_zero, List.set_cons_succ]
  go_big_quiet_on
  go_big_quiet_step (exact calls_below (B2.out _))
  go_big_quiet_step (fail)
  go_big_quiet_step (fail)
  go_big_quiet_want
  refine quiet_load_row 24 (.tmp 7) (by rfl) gz (by rfl) 24 rz (0, 0) _ ?hC Try.underlying24 rfl IZ.out ?_
  case hC => rintro w' ⟨p, rfl⟩; exact (RR.out.on p.2).row 1
  simp only [Act.put, List.setIfInBounds_toArray, List.set_cons_zero, List.set_cons_succ]
  go_big_quiet_on
  go_big_quiet_want
  refine quiet_load_row 24 (.tmp 7) (by rfl) gz (by rfl) 24 rz (0, 0) _ ?hC Try.underlying24 rfl IZ.out ?_
  case hC => rintro w' ⟨p, rfl⟩; exact (RR.out.on p.2).row 1
  simp only [Act.put, List.setIfInBounds_toArray, List.set_cons_zero, List.set_cons_succ]
  go_big_quiet_on
  go_big_quiet_want
  refine quiet_load_row 24 (.tmp 3) (by rfl) ga (by rfl) 24 ra (0, 0) _ ?hC Try.underlying24 rfl IA.out ?_
  case hC => rintro w' ⟨p, rfl⟩; exact (RR.out.on p.2).row 0
  simp only [Act.put, List.setIfInBounds_toArray, List.set_cons_zero, List.set_cons_succ]
  go_big_quiet_on
  go_big_quiet_step (exact calls_below (C2.out _))
  go_big_quiet_step (exact calls_below (C3.out _))
  go_big_quiet_step (exact calls_below (B3.out _))
  go_big_quiet_want
  refine quiet_load_row 24 (.tmp 3) (by rfl) ga (by rfl) 24 ra (0, 0) _ ?hC Try.underlying24 rfl IA.out ?_
  case hC => rintro w' ⟨p, rfl⟩; exact (RR.out.on p.2).row 0
  simp only [Act.put, List.setIfInBounds_toArray, List.set_cons_zero, List.set_cons_succ]
  go_big_quiet_on
  go_big_quiet_step (exact calls_below (B4.out _))
  go_big_quiet_step (fail)
  go_big_quiet_step (fail)
  refine wpQuiet_nil ?_
  rintro _ ⟨p, rfl⟩
  have RR := Lib.hid (RR.out.on p.2)
  generalize p.1 = wq at RR ⊢
  go_upto_region 4 with fail
  refine wp_region_below (by kernel_rfl) (by kernel_rfl) ?_
  go_big_quiet_want
  refine quiet_load_row 24 (.tmp 3) (by rfl) ga (by rfl) 24 ra (0, 0) _ ?hC Try.underlying24 rfl IA.out ?_
  case hC => rintro w' ⟨p, rfl⟩; exact (RR.out.on p.2).row 0
  simp only [Act.put, List.setIfInBounds_toArray, List.set_cons_zero, List.set_cons_succ]
  go_big_quiet_on
  go_big_quiet_step (fail)
  go_big_quiet_step (exact calls_below (C4.out _))
  go_big_quiet_want
  refine quiet_load_row 24 (.tmp 3) (by rfl) ga (by rfl) 24 ra (0, 0) _ ?hC Try.underlying24 rfl IA.out ?_
  case hC => rintro w' ⟨p, rfl⟩; exact (RR.out.on p.2).row 0
  simp only [Act.put, List.setIfInBounds_toArray, List.set_cons_zero, List.set_cons_succ]
  go_big_quiet_on
  go_big_quiet_step (fail)
  go_big_quiet_step (exact calls_below (C5.out _))
  go_big_quiet_step (exact calls_below (C6.out _))
  go_big_quiet_step (exact calls_below (B5.out _))
  go_big_quiet_want
  refine quiet_load_row 24 (.tmp 3) (by rfl) ga (by rfl) 24 ra (0, 0) _ ?hC Try.underlying24 rfl IA.out ?_
  case hC => rintro w' ⟨p, rfl⟩; exact (RR.out.on p.2).row 0
  simp only [Act.put, List.setIfInBounds_toArray, List.set_cons_zero, List.set_cons_succ]
  go_big_quiet_on
  go_big_quiet_step (fail)
  go_big_quiet_step (fail)
  go_big_quiet_step (fail)
  go_big_quiet_step (fail)
  go_big_quiet_step (fail)
  go_big_quiet_step (fail)
  go_big_quiet_step (exact calls_below (C7.out _))
  go_big_quiet_step (exact calls_below (B6.out _))
  go_big_quiet_step (fail)
  go_big_quiet_step (fail)
  go_big_quiet_want
  refine quiet_load_row 24 (.tmp 3) (by rfl) ga (by rfl) 24 ra (0, 0) _ ?hC Try.underlying24 rfl IA.out ?_
  case hC => rintro w' ⟨p, rfl⟩; exact (RR.out.on p.2).row 0
  simp only [Act.put, List.setIfInBounds_toArray, List.set_cons_zero, List.set_cons_succ]
  go_big_quiet_on
  go_big_quiet_step (exact calls_below (C8.out _))
  go_big_quiet_step (exact calls_below (B7.out _))
  go_big_quiet_want
  refine quiet_load_row 24 (.tmp 3) (by rfl) ga (by rfl) 24 ra (0, 0) _ ?hC Try.underlying24 rfl IA.out ?_
  case hC => rintro w' ⟨p, rfl⟩; exact (RR.out.on p.2).row 0
  simp only [Act.put, List.setIfInBounds_toArray, List.set_cons_zero, List.set_cons_succ]
  go_big_quiet_on
  go_big_quiet_want
  refine quiet_load_row 24 (.tmp 3) (by rfl) ga (by rfl) 24 ra (0, 0) _ ?hC Try.underlying24 rfl IA.out ?_
  case hC => rintro w' ⟨p, rfl⟩; exact (RR.out.on p.2).row 0
  simp only [Act.put, List.setIfInBounds_toArray, List.set_cons_zero, List.set_cons_succ]
  go_big_quiet_on
  go_big_quiet_step (exact calls_below (C9.out _))
  go_big_quiet_step (exact calls_below (B8.out _))
  go_big_quiet_step (fail)
  go_big_quiet_step (fail)
  go_big_quiet_step (fail)
  go_big_quiet_step (exact calls_below (A.out _))
  go_big_quiet_step (fail)
  go_big_quiet_step (fail)
  refine wpQuiet_nil ?_
  rintro _ ⟨p, rfl⟩
  have RR := Lib.hid (RR.out.on p.2)
  generalize p.1 = wq at RR ⊢
  go_wp2_with fail
  go_ret
  exact ⟨rfl, RR.out.bel⟩

end Go.Proofs.Ythlmphloalbhnaa
