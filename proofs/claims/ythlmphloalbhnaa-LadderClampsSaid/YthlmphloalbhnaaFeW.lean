/-
  mailsacklaw03.FeSwaps, FeLaws, FeNegs: the walks.
-/
import Derived.Test.YthlmphloalbhnaaFeQ
namespace Go.Proofs.Ythlmphloalbhnaa
open Go.RowKit MS

set_option maxRecDepth 100000 in
set_option maxHeartbeats 2000000 in
theorem felaws_flat (a : N5) (ha : a.ok) (b : N5) (hb : b.ok) (c : N5) (hc : c.ok) (w : World) :
    Calls Try.prog 5 #[.agg (nvA a), .agg (nvA b), .agg (nvA c)] w fun e w' => e = .returned (.bool true) ∧ Below w.heap.size w w' := by
  have A := Lib.hid (fun w => awake03_any w)
  have C1 := Lib.hid (fun w => feadd_any a b ha hb w)
  have B1 := Lib.hid (fun w => febytes_any (add a b) (add_ok ha hb) w)
  have C2 := Lib.hid (fun w => feadd_any b a hb ha w)
  have B2 := Lib.hid (fun w => febytes_any (add b a) (add_ok hb ha) w)
  have C3 := Lib.hid (fun w => femul_any a b ha hb w)
  have B3 := Lib.hid (fun w => febytes_any (mul a b) (mul_ok ha hb) w)
  have C4 := Lib.hid (fun w => femul_any b a hb ha w)
  have B4 := Lib.hid (fun w => febytes_any (mul b a) (mul_ok hb ha) w)
  have C5 := Lib.hid (fun w => fesub_any a b ha hb w)
  have C6 := Lib.hid (fun w => feadd_any (sub a b) b (sub_ok ha) hb w)
  have B5 := Lib.hid (fun w => febytes_any (add (sub a b) b) (add_ok (sub_ok ha) hb) w)
  have B6 := Lib.hid (fun w => febytes_any a ha w)
  have C7 := Lib.hid (fun w => femul_any b c hb hc w)
  have C8 := Lib.hid (fun w => femul_any a (mul b c) ha (mul_ok hb hc) w)
  have B7 := Lib.hid (fun w => febytes_any (mul a (mul b c)) (mul_ok ha (mul_ok hb hc)) w)
  have C9 := Lib.hid (fun w => femul_any (mul a b) c (mul_ok ha hb) hc w)
  have B8 := Lib.hid (fun w => febytes_any (mul (mul a b) c) (mul_ok (mul_ok ha hb) hc) w)
  have D1 := Lib.hid (fun w => feadd_any b c hb hc w)
  have D2 := Lib.hid (fun w => femul_any a (add b c) ha (add_ok hb hc) w)
  have B9 := Lib.hid (fun w => febytes_any (mul a (add b c)) (mul_ok ha (add_ok hb hc)) w)
  have D3 := Lib.hid (fun w => femul_any a c ha hc w)
  have D4 := Lib.hid (fun w => feadd_any (mul a b) (mul a c) (mul_ok ha hb) (mul_ok ha hc) w)
  have BA := Lib.hid (fun w => febytes_any (add (mul a b) (mul a c)) (add_ok (mul_ok ha hb) (mul_ok ha hc)) w)
  rw [← feB_em (em_add_comm a b)] at B2
  rw [← feB_em (em_mul_comm a b)] at B4
  rw [feB_em (em_sub_add a hb)] at B5
  rw [← feB_em (em_mul_assoc a b c)] at B8
  rw [← feB_em (em_distrib a b c)] at BA
  generalize feB (add a b) = E1 at *
  generalize feB (mul a b) = E2 at *
  generalize feB a = E3 at *
  generalize feB (mul a (mul b c)) = E4 at *
  generalize feB (mul a (add b c)) = E5 at *
  have IA := Lib.hid (infoV a)
  have IB := Lib.hid (infoV b)
  have IC := Lib.hid (infoV c)
  have R0 := Lib.hid (show Rw w [(w.heap.size, nvA a, 24), (w.heap.size + 1, nvA b, 24), (w.heap.size + 1 + 1, nvA c, 24)] (((w.alloc (.cells (nvA a) 24 (0, 0))).alloc (.cells (nvA b) 24 (0, 0))).alloc (.cells (nvA c) 24 (0, 0))) from rw3 w (nvA a) (nvA b) (nvA c))
  generalize nvA (add (mul a b) (mul a c)) = x1 at *
  generalize nvA (mul a (add b c)) = x2 at *
  generalize nvA (mul (mul a b) c) = x3 at *
  generalize nvA (mul a (mul b c)) = x4 at *
  generalize nvA (add (sub a b) b) = x5 at *
  generalize nvA (add a b) = x6 at *
  generalize nvA (add b a) = x7 at *
  generalize nvA (mul a b) = x8 at *
  generalize nvA (mul b a) = x9 at *
  generalize nvA (mul b c) = y1 at *
  generalize nvA (mul a c) = y2 at *
  generalize nvA (add b c) = y3 at *
  generalize nvA (sub a b) = y4 at *
  generalize nvA a = ra at *
  generalize nvA b = rb at *
  generalize nvA c = rc at *
  clear ha hb hc
  go_enter Try.func5, Try.ntmps5
  go_upto_region 1 with fail
  generalize ((w.alloc (.cells ra 24 (0, 0))).alloc (.cells rb 24 (0, 0))).alloc (.cells rc 24 (0, 0)) = W at R0 ⊢
  generalize w.heap.size + 1 + 1 = gc at *
  generalize w.heap.size + 1 = gb at *
  generalize hga : w.heap.size = ga at *
  have RR := R0
  clear hga
  refine wp_region_below (by kernel_rfl) (by kernel_rfl) ?_
  go_big_quiet_want
  refine quiet_load_row 24 (.tmp 3) (by rfl) ga (by rfl) 24 ra (0, 0) _ ?hC Try.underlying24 rfl IA.out ?_
  case hC => rintro w' ⟨p, rfl⟩; exact (RR.out.on p.2).row 0
  simp only [Act.put, List.setIfInBounds_toArray, List.set_cons_zero, List.set_cons_succ]
  go_big_quiet_on
  go_big_quiet_want
  refine quiet_load_row 24 (.tmp 4) (by rfl) gb (by rfl) 24 rb (0, 0) _ ?hC Try.underlying24 rfl IB.out ?_
  case hC => rintro w' ⟨p, rfl⟩; exact (RR.out.on p.2).row 1
  simp only [Act.put, List.setIfInBounds_toArray, List.set_cons_zero, List.set_cons_succ]
  go_big_quiet_on
  go_big_quiet_step (exact calls_below (C1.out _))
  go_big_quiet_step (exact calls_below (B1.out _))
  go_big_quiet_want
  refine quiet_load_row 24 (.tmp 4) (by rfl) gb (by rfl) 24 rb (0, 0) _ ?hC Try.underlying24 rfl IB.out ?_
  case hC => rintro w' ⟨p, rfl⟩; exact (RR.out.on p.2).row 1
  simp only [Act.put, List.setIfInBounds_toArray, List.set_cons_zero, List.set_cons_succ]
  go_big_quiet_on
  go_big_quiet_want
  refine quiet_load_row 24 (.tmp 3) (by rfl) ga (by rfl) 24 ra (0, 0) _ ?hC Try.underlying24 rfl IA.out ?_
  case hC => rintro w' ⟨p, rfl⟩; exact (RR.out.on p.2).row 0
  simp only [Act.put, List.setIfInBounds_toArray, List.set_cons_zero, List.set_cons_succ]
  go_big_quiet_on
  go_big_quiet_step (exact calls_below (C2.out _))
  go_big_quiet_step (exact calls_below (B2.out _))
  go_big_quiet_step (fail)
  go_big_quiet_step (fail)
  go_big_quiet_want
  refine quiet_load_row 24 (.tmp 3) (by rfl) ga (by rfl) 24 ra (0, 0) _ ?hC Try.underlying24 rfl IA.out ?_
  case hC => rintro w' ⟨p, rfl⟩; exact (RR.out.on p.2).row 0
  simp only [Act.put, List.setIfInBounds_toArray, List.set_cons_zero, List.set_cons_succ]
  go_big_quiet_on
  go_big_quiet_want
  refine quiet_load_row 24 (.tmp 4) (by rfl) gb (by rfl) 24 rb (0, 0) _ ?hC Try.underlying24 rfl IB.out ?_
  case hC => rintro w' ⟨p, rfl⟩; exact (RR.out.on p.2).row 1
  simp only [Act.put, List.setIfInBounds_toArray, List.set_cons_zero, List.set_cons_succ]
  go_big_quiet_on
  go_big_quiet_step (exact calls_below (C3.out _))
  go_big_quiet_step (exact calls_below (B3.out _))
  go_big_quiet_want
  refine quiet_load_row 24 (.tmp 4) (by rfl) gb (by rfl) 24 rb (0, 0) _ ?hC Try.underlying24 rfl IB.out ?_
  case hC => rintro w' ⟨p, rfl⟩; exact (RR.out.on p.2).row 1
  simp only [Act.put, List.setIfInBounds_toArray, List.set_cons_zero, List.set_cons_succ]
  go_big_quiet_on
  go_big_quiet_want
  refine quiet_load_row 24 (.tmp 3) (by rfl) ga (by rfl) 24 ra (0, 0) _ ?hC Try.underlying24 rfl IA.out ?_
  case hC => rintro w' ⟨p, rfl⟩; exact (RR.out.on p.2).row 0
  simp only [Act.put, List.setIfInBounds_toArray, List.set_cons_zero, List.set_cons_succ]
  go_big_quiet_on
  go_big_quiet_step (exact calls_below (C4.out _))
  go_big_quiet_step (exact calls_below (B4.out _))
  go_big_quiet_step (fail)
  go_big_quiet_step (fail)
  go_big_quiet_step (fail)
  go_big_quiet_want
  refine quiet_load_row 24 (.tmp 3) (by rfl) ga (by rfl) 24 ra (0, 0) _ ?hC Try.underlying24 rfl IA.out ?_
  case hC => rintro w' ⟨p, rfl⟩; exact (RR.out.on p.2).row 0
  simp only [Act.put, List.setIfInBounds_toArray, List.set_cons_zero, List.set_cons_succ]
  go_big_quiet_on
  go_big_quiet_want
  refine quiet_load_row 24 (.tmp 4) (by rfl) gb (by rfl) 24 rb (0, 0) _ ?hC Try.underlying24 rfl IB.out ?_
  case hC => rintro w' ⟨p, rfl⟩; exact (RR.out.on p.2).row 1
  simp only [Act.put, List.setIfInBounds_toArray, List.set_cons_zero, List.set_cons_succ]
  go_big_quiet_on
  go_big_quiet_step (exact calls_below (C5.out _))
  go_big_quiet_want
  refine quiet_load_row 24 (.tmp 4) (by rfl) gb (by rfl) 24 rb (0, 0) _ ?hC Try.underlying24 rfl IB.out ?_
  case hC => rintro w' ⟨p, rfl⟩; exact (RR.out.on p.2).row 1
  simp only [Act.put, List.setIfInBounds_toArray, List.set_cons_zero, List.set_cons_succ]
  go_big_quiet_on
  go_big_quiet_step (exact calls_below (C6.out _))
  go_big_quiet_step (exact calls_below (B5.out _))
  go_big_quiet_want
  refine quiet_load_row 24 (.tmp 3) (by rfl) ga (by rfl) 24 ra (0, 0) _ ?hC Try.underlying24 rfl IA.out ?_
  case hC => rintro w' ⟨p, rfl⟩; exact (RR.out.on p.2).row 0
  simp only [Act.put, List.setIfInBounds_toArray, List.set_cons_zero, List.set_cons_succ]
  go_big_quiet_on
  go_big_quiet_step (exact calls_below (B6.out _))
  go_big_quiet_step (fail)
  go_big_quiet_step (fail)
  refine wpQuiet_nil ?_
  rintro _ ⟨p, rfl⟩
  have RR := Lib.hid (RR.out.on p.2)
  generalize p.1 = wq at RR ⊢
  go_upto_region 3 with fail
  refine wp_region_below (by kernel_rfl) (by kernel_rfl) ?_
  go_big_quiet_want
  refine quiet_load_row 24 (.tmp 3) (by rfl) ga (by rfl) 24 ra (0, 0) _ ?hC Try.underlying24 rfl IA.out ?_
  case hC => rintro w' ⟨p, rfl⟩; exact (RR.out.on p.2).row 0
  simp only [Act.put, List.setIfInBounds_toArray, List.set_cons_zero, List.set_cons_succ]
  go_big_quiet_on
  go_big_quiet_want
  refine quiet_load_row 24 (.tmp 4) (by rfl) gb (by rfl) 24 rb (0, 0) _ ?hC Try.underlying24 rfl IB.out ?_
  case hC => rintro w' ⟨p, rfl⟩; exact (RR.out.on p.2).row 1
  simp only [Act.put, List.setIfInBounds_toArray, List.set_cons_zero, List.set_cons_succ]
  go_big_quiet_on
  go_big_quiet_want
  refine quiet_load_row 24 (.tmp 5) (by rfl) gc (by rfl) 24 rc (0, 0) _ ?hC Try.underlying24 rfl IC.out ?_
  case hC => rintro w' ⟨p, rfl⟩; exact (RR.out.on p.2).row 2
  simp only [Act.put, List.setIfInBounds_toArray, List.set_cons_zero, List.set_cons_succ]
  go_big_quiet_on
  go_big_quiet_step (exact calls_below (C7.out _))
  go_big_quiet_step (exact calls_below (C8.out _))
  go_big_quiet_step (exact calls_below (B7.out _))
  go_big_quiet_want
  refine quiet_load_row 24 (.tmp 3) (by rfl) ga (by rfl) 24 ra (0, 0) _ ?hC Try.underlying24 rfl IA.out ?_
  case hC => rintro w' ⟨p, rfl⟩; exact (RR.out.on p.2).row 0
  simp only [Act.put, List.setIfInBounds_toArray, List.set_cons_zero, List.set_cons_succ]
  go_big_quiet_on
  go_big_quiet_want
  refine quiet_load_row 24 (.tmp 4) (by rfl) gb (by rfl) 24 rb (0, 0) _ ?hC Try.underlying24 rfl IB.out ?_
  case hC => rintro w' ⟨p, rfl⟩; exact (RR.out.on p.2).row 1
  simp only [Act.put, List.setIfInBounds_toArray, List.set_cons_zero, List.set_cons_succ]
  go_big_quiet_on
  go_big_quiet_step (exact calls_below (C3.out _))
  go_big_quiet_want
  refine quiet_load_row 24 (.tmp 5) (by rfl) gc (by rfl) 24 rc (0, 0) _ ?hC Try.underlying24 rfl IC.out ?_
  case hC => rintro w' ⟨p, rfl⟩; exact (RR.out.on p.2).row 2
  simp only [Act.put, List.setIfInBounds_toArray, List.set_cons_zero, List.set_cons_succ]
  go_big_quiet_on
  go_big_quiet_step (exact calls_below (C9.out _))
  go_big_quiet_step (exact calls_below (B8.out _))
  go_big_quiet_step (fail)
  refine wpQuiet_nil ?_
  rintro _ ⟨p, rfl⟩
  have RR := Lib.hid (RR.out.on p.2)
  generalize p.1 = wq at RR ⊢
  go_upto_region 5 with fail
  refine wp_region_below (by kernel_rfl) (by kernel_rfl) ?_
  go_big_quiet_want
  refine quiet_load_row 24 (.tmp 3) (by rfl) ga (by rfl) 24 ra (0, 0) _ ?hC Try.underlying24 rfl IA.out ?_
  case hC => rintro w' ⟨p, rfl⟩; exact (RR.out.on p.2).row 0
  simp only [Act.put, List.setIfInBounds_toArray, List.set_cons_zero, List.set_cons_succ]
  go_big_quiet_on
  go_big_quiet_want
  refine quiet_load_row 24 (.tmp 4) (by rfl) gb (by rfl) 24 rb (0, 0) _ ?hC Try.underlying24 rfl IB.out ?_
  case hC => rintro w' ⟨p, rfl⟩; exact (RR.out.on p.2).row 1
  simp only [Act.put, List.setIfInBounds_toArray, List.set_cons_zero, List.set_cons_succ]
  go_big_quiet_on
  go_big_quiet_want
  refine quiet_load_row 24 (.tmp 5) (by rfl) gc (by rfl) 24 rc (0, 0) _ ?hC Try.underlying24 rfl IC.out ?_
  case hC => rintro w' ⟨p, rfl⟩; exact (RR.out.on p.2).row 2
  simp only [Act.put, List.setIfInBounds_toArray, List.set_cons_zero, List.set_cons_succ]
  go_big_quiet_on
  go_big_quiet_step (exact calls_below (D1.out _))
  go_big_quiet_step (exact calls_below (D2.out _))
  go_big_quiet_step (exact calls_below (B9.out _))
  go_big_quiet_want
  refine quiet_load_row 24 (.tmp 3) (by rfl) ga (by rfl) 24 ra (0, 0) _ ?hC Try.underlying24 rfl IA.out ?_
  case hC => rintro w' ⟨p, rfl⟩; exact (RR.out.on p.2).row 0
  simp only [Act.put, List.setIfInBounds_toArray, List.set_cons_zero, List.set_cons_succ]
  go_big_quiet_on
  go_big_quiet_want
  refine quiet_load_row 24 (.tmp 4) (by rfl) gb (by rfl) 24 rb (0, 0) _ ?hC Try.underlying24 rfl IB.out ?_
  case hC => rintro w' ⟨p, rfl⟩; exact (RR.out.on p.2).row 1
  simp only [Act.put, List.setIfInBounds_toArray, List.set_cons_zero, List.set_cons_succ]
  go_big_quiet_on
  go_big_quiet_step (exact calls_below (C3.out _))
  go_big_quiet_want
  refine quiet_load_row 24 (.tmp 3) (by rfl) ga (by rfl) 24 ra (0, 0) _ ?hC Try.underlying24 rfl IA.out ?_
  case hC => rintro w' ⟨p, rfl⟩; exact (RR.out.on p.2).row 0
  simp only [Act.put, List.setIfInBounds_toArray, List.set_cons_zero, List.set_cons_succ]
  go_big_quiet_on
  go_big_quiet_want
  refine quiet_load_row 24 (.tmp 5) (by rfl) gc (by rfl) 24 rc (0, 0) _ ?hC Try.underlying24 rfl IC.out ?_
  case hC => rintro w' ⟨p, rfl⟩; exact (RR.out.on p.2).row 2
  simp only [Act.put, List.setIfInBounds_toArray, List.set_cons_zero, List.set_cons_succ]
  go_big_quiet_on
  go_big_quiet_step (exact calls_below (D3.out _))
  go_big_quiet_step (exact calls_below (D4.out _))
  go_big_quiet_step (exact calls_below (BA.out _))
  go_big_quiet_step (fail)
  go_big_quiet_step (fail)
  go_big_quiet_step (exact calls_below (A.out _))
  go_big_quiet_step (fail)
  go_big_quiet_step (fail)
  refine wpQuiet_nil ?_
  rintro _ ⟨p, rfl⟩
  have RR := Lib.hid (RR.out.on p.2)
  generalize p.1 = wq at RR ⊢
  go_wp2_with fail
  go_ret
  exact ⟨rfl, RR.out.bel⟩
end Go.Proofs.Ythlmphloalbhnaa
