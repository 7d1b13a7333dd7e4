/-
  fe.Add, fe.Sub: the walks.
-/
import Derived.Test.YthlmphloalbhnaaFeK
import Derived.Test.YthlmphloalbhnaaRw
import Derived.Test.YthlmphloalbhnaaBQ
import Derived.Deep.DeepCutAuto
namespace Go.Proofs.Ythlmphloalbhnaa
open Go.RowKit MS

def getN (x : N5) : Nat → Nat
  | 0 => x.a
  | 1 => x.b
  | 2 => x.c
  | 3 => x.d
  | _ => x.e
theorem nvA_row (x : N5) : nvA x = rowF (getN x) := rfl
theorem infoN (f : Nat → Nat) : (Try.prog.info? 24).map (·.size) = some (rowF f).size := by rw [size_rowF]; kernel_rfl
theorem infoV (x : N5) : (Try.prog.info? 24).map (·.size) = some (nvA x).size := infoN (getN x)
theorem one_nvA (x : N5) : (nvA x).all (·.oneCell') = true := one_rowF (getN x)
theorem size_nvA (x : N5) : (nvA x).size = 5 := rfl
theorem wpQuiet_load_row {P : Program} {ops : Array Oper} {C : World → Prop} {Q : Act → Prop} {a : Act} {o : Oper} {rest : List Oper} (hgd : o.guard = none) (ty : TypeId) (x : Operand) (ho : o.op = .load ty x)
    (g : Nat) (hx : a.eval x = .pointer (some ⟨g, 0, none⟩)) (t : TypeId) (cs : Array Value) (fr : Nat × Nat) (d : TypeDesc) (hC : ∀ w, C w → w.heap[g]? = some (.cells cs t fr))
    (hu : P.underlying ty = some d) (hd : (match d with | .struct _ | .array _ _ => true | _ => false) = true) (hi : (P.info? ty).map (·.size) = some cs.size)
    (h : wpQuiet P ops C Q rest (a.put o.dst (.agg cs))) : wpQuiet P ops C Q (o :: rest) a := by
  show if Region.wanted o (yielded ops a.tmps) = true then _ else _
  rw [if_pos (by simp [Region.wanted, hgd])]
  refine ⟨.agg cs, fun w hw => ?_, h⟩
  unfold Oper.quietAt execOp
  simp only [ho, hx, Instr.loadAt, Instr.sureAddr, Sem.run_bind, Sem.run_pure, Result.andThen_ok, run_loadVar_row w g t ty cs fr d (hC w hw) hu hd hi]
  exact ⟨rfl, rfl⟩
/-- Two boxed numbers and the result's block. -/
theorem rw3 (w : World) (r0 r1 r2 : Array Value) : Rw w [(w.heap.size, r0, 24), (w.heap.size + 1, r1, 24), (w.heap.size + 1 + 1, r2, 24)] (((w.alloc (.cells r0 24 (0, 0))).alloc (.cells r1 24 (0, 0))).alloc (.cells r2 24 (0, 0))) := by
  have h := (((Rw.nil w).alloc r0 24).alloc r1 24).alloc r2 24
  simpa using h

theorem nar_get {x : N5} (h : x.nar) (j : Nat) : getN x j < 2251799813947392 := by
  obtain ⟨h1, h2, h3, h4, h5⟩ := h
  unfold getN
  split <;> assumption

set_option maxRecDepth 100000 in
set_option maxHeartbeats 1000000 in
theorem feadd_any (x y : N5) (hx : x.ok) (hy : y.ok) (w : World) :
    Calls Try.prog 23 #[.agg (nvA x), .agg (nvA y)] w fun e w' => e = .returned (.agg (nvA (add x y))) ∧ Below w.heap.size w w' := by
  have NX := Lib.hid (fun w => narrow_any x hx w)
  have NY := Lib.hid (fun w => narrow_any y hy w)
  have R0 := Lib.hid (rw3 w (nvA x) (nvA y) #[.int .u64 0, .int .u64 0, .int .u64 0, .int .u64 0, .int .u64 0])
  have IX := Lib.hid (infoV x)
  have IY := Lib.hid (infoV y)
  have SX := Lib.hid (size_nvA x)
  have SY := Lib.hid (size_nvA y)
  have BX := Lib.hid (nar_get (narrow_nar hx))
  have BY := Lib.hid (nar_get (narrow_nar hy))
  generalize hrx : nvA x = rx at NX R0 IX SX ⊢
  generalize hry : nvA y = ry at NY R0 IY SY ⊢
  clear hrx hry
  go_enter Try.func23, Try.ntmps23
  go_wp2_with fail
  generalize ((w.alloc (.cells rx 24 (0, 0))).alloc (.cells ry 24 (0, 0))).alloc (.cells #[.int .u64 0, .int .u64 0, .int .u64 0, .int .u64 0, .int .u64 0] 24 (0, 0)) = W at R0 ⊢
  refine wp_region_below_tail 4 (by kernel_rfl) (by kernel_rfl) ?_
  simp only [List.take_succ_cons, List.take_zero, List.drop_succ_cons, List.drop_zero]
  refine wpQuiet_load_row rfl 24 (.tmp 2) rfl w.heap.size rfl 24 rx (0, 0) _ ?hC Try.underlying24 rfl IX.out ?_
  case hC => rintro w' ⟨p, rfl⟩; exact (R0.out.on p.2).row 0
  simp only [Act.put, List.setIfInBounds_toArray, List.set_cons_zero, List.set_cons_succ]
  go_big_quiet_step (exact calls_below (NX.out _))
  refine wpQuiet_load_row rfl 24 (.tmp 3) rfl (w.heap.size + 1) rfl 24 ry (0, 0) _ ?hC2 Try.underlying24 rfl IY.out ?_
  case hC2 => rintro w' ⟨p, rfl⟩; exact (R0.out.on p.2).row 1
  simp only [Act.put, List.setIfInBounds_toArray, List.set_cons_zero, List.set_cons_succ]
  go_big_quiet_step (exact calls_below (NY.out _))
  refine wpQuiet_nil ?_
  rintro _ ⟨p, rfl⟩
  have R1 := Lib.hid (R0.out.on p.2)
  generalize p.1 = wp at R1 ⊢
  have R2 := Lib.hid ((R1.out.store 0 (nvA (narrow x))).store 1 (nvA (narrow y)))
  have R1' := Lib.hid (R1.out.store 0 (nvA (narrow x)))
  have INX := Lib.hid (infoV (narrow x))
  have INY := Lib.hid (infoV (narrow y))
  have ONX := Lib.hid (one_nvA (narrow x))
  have ONY := Lib.hid (one_nvA (narrow y))
  have LX := Lib.hid (show rx.size = (nvA (narrow x)).size by rw [SX.out]; rfl)
  have LY := Lib.hid (show ry.size = (nvA (narrow y)).size by rw [SY.out]; rfl)
  go_wp2_with (first
    | (with_reducible refine wpList_store_row rfl 24 (.tmp 2) (.tmp 7) rfl w.heap.size (nvA (narrow x)) rfl rfl 24 rx ?hg1 INX.out LX.out ONX.out ?_)
    | (with_reducible refine wpList_store_row rfl 24 (.tmp 3) (.tmp 9) rfl (w.heap.size + 1) (nvA (narrow y)) rfl rfl 24 ry ?hg2 INY.out LY.out ONY.out ?_))
  case hg1 => exact R1.out.row 0
  case hg2 => exact R1'.out.row 1
  generalize (World.setRow wp w.heap.size (nvA (narrow x))).setRow (w.heap.size + 1) (nvA (narrow y)) = w2 at R2 ⊢
  have R2 := Lib.hid (show Rw w [(w.heap.size, rowF (getN (narrow x)), 24), (w.heap.size + 1, rowF (getN (narrow y)), 24), (w.heap.size + 1 + 1, #[.int .u64 0, .int .u64 0, .int .u64 0, .int .u64 0, .int .u64 0], 24)] w2 from R2.out)
  clear R0 R1 R1' NX NY IX IY INX INY ONX ONY LX LY SX SY
  have NF := Lib.hid (fun w => narrow_any (addN (narrow x) (narrow y)) (addN_ok (narrow_nar hx) (narrow_nar hy)) w)
  have HOP := Lib.hid (show add x y = narrow (addN (narrow x) (narrow y)) from rfl)
  have HROW := Lib.hid (show rowF (fun i => getN (narrow x) i + getN (narrow y) i) = nvA (addN (narrow x) (narrow y)) from rfl)
  generalize hX : getN (narrow x) = X at *
  generalize hY : getN (narrow y) = Y at *
  generalize addN (narrow x) (narrow y) = S at NF HOP HROW
  clear hX hY hx hy
  generalize hA : w.heap.size = ga at *
  generalize hB : ga + 1 = gb at *
  generalize hC : gb + 1 = gc at *
  clear hB hC
  have HA := Lib.hid hA
  clear hA
  go_loopw [10] (fun i wr => ∃ j : Nat, j ≤ 5 ∧ i = .int .i64 j ∧ Rw w [(ga, rowF (prog X (fun i => X i + Y i) j), 24), (gb, rowF Y, 24), (gc, #[.int .u64 0, .int .u64 0, .int .u64 0, .int .u64 0, .int .u64 0], 24)] wr) (fun i _ => 5 - (intOf i).toNat)
  case atStart => exact ⟨0, by omega, rfl, by rw [prog_zero]; exact R2.out⟩
  case round =>
    obtain ⟨j, hj, rfl, hr⟩ := hrel
    have R3 := Lib.hid hr
    clear hr R2
    by_cases hlt : j < 5
    · have j1 : (j : Int) < 5 := by omega
      have j0 : (0 : Int) ≤ j := by omega
      have ca := R3.out.cell 0 j (rowF_get _ j hlt)
      have cb := R3.out.cell 1 j (rowF_get _ j hlt)
      have fa := R3.out.free 0 j
      rw [prog_at] at ca
      have bx := BX.out j
      have bby := BY.out j
      have put := R3.out.put 0 j (.int .u64 ((X j + Y j : Nat) : Int))
      rw [rowF_set _ _ _ hlt, prog_set X (fun i => X i + Y i) j] at put
      have hs : ((X j + Y j : Nat) : Int) = (X j : Int) + (Y j : Int) := by omega
      rw [hs] at put
      have PUT := Lib.hid put
      have HLT := Lib.hid hlt
      generalize X j = xj at *
      generalize Y j = yj at *
      clear put hlt hs hj
      go_wp2_with fail
      go_still_tail 8, (by kernel_rfl)
      go_wp2_with fail
      go_roundw
      case rel => exact ⟨j + 1, HLT.out, by go_num, PUT.out.drew⟩
      case measure => simp [intOf]; omega
    · have j1 : ¬ ((j : Int) < 5) := by omega
      have hj5 : j = 5 := by omega
      have r4 := R3.out
      rw [hj5, prog_end, HROW.out] at r4
      have R4 := Lib.hid r4
      clear r4 hj5 hlt hj R3
      have IS := Lib.hid (infoV S)
      have IN := Lib.hid (infoV (narrow S))
      have ON := Lib.hid (one_nvA (narrow S))
      have LN := Lib.hid (show (#[.int .u64 0, .int .u64 0, .int .u64 0, .int .u64 0, .int .u64 0] : Array Value).size = (nvA (narrow S)).size from rfl)
      have RW4 := Lib.hid (R4.out.row 0)
      go_wp2_with (with_reducible refine wpList_load_row rfl 24 (.tmp 2) rfl ga rfl 24 (nvA S) (0, 0) _ RW4.out Try.underlying24 rfl IS.out ?_)
      refine (NF.out _).mono ?_
      rintro e w5 ⟨rfl, hb5⟩
      have R5 := Lib.hid (R4.out.on hb5)
      have RW5 := Lib.hid (R5.out.row 2)
      clear hb5
      go_wp2_with (with_reducible refine wpList_store_row rfl 24 (.tmp 4) (.tmp 23) rfl gc (nvA (narrow S)) rfl rfl 24 #[.int .u64 0, .int .u64 0, .int .u64 0, .int .u64 0, .int .u64 0] RW5.out IN.out LN.out ON.out ?_)
      have R6 := R5.out.store 2 (nvA (narrow S))
      rw [HOP.out]
      refine bodyPost_ret (results_cell_row rfl _ _ gc 24 (nvA (narrow S)) (0, 0) _ rfl (R6.row 2) Try.underlying24 rfl IN.out) rfl ⟨rfl, ?_⟩
      exact R6.bel

/-- Twice the prime, less y, limb by limb. -/
def sbG (X Y : Nat → Nat) (i : Nat) : Nat := X i + ((if i = 0 then 4503599627370458 else 4503599627370494) - Y i)
set_option maxRecDepth 100000 in
set_option maxHeartbeats 1000000 in
theorem fesub_any (x y : N5) (hx : x.ok) (hy : y.ok) (w : World) :
    Calls Try.prog 25 #[.agg (nvA x), .agg (nvA y)] w fun e w' => e = .returned (.agg (nvA (sub x y))) ∧ Below w.heap.size w w' := by
  have NX := Lib.hid (fun w => narrow_any x hx w)
  have NY := Lib.hid (fun w => narrow_any y hy w)
  have R0 := Lib.hid (rw3 w (nvA x) (nvA y) #[.int .u64 0, .int .u64 0, .int .u64 0, .int .u64 0, .int .u64 0])
  have IX := Lib.hid (infoV x)
  have IY := Lib.hid (infoV y)
  have SX := Lib.hid (size_nvA x)
  have SY := Lib.hid (size_nvA y)
  have BX := Lib.hid (nar_get (narrow_nar hx))
  have BY := Lib.hid (nar_get (narrow_nar hy))
  generalize hrx : nvA x = rx at NX R0 IX SX ⊢
  generalize hry : nvA y = ry at NY R0 IY SY ⊢
  clear hrx hry
  go_enter Try.func25, Try.ntmps25
  go_wp2_with fail
  generalize ((w.alloc (.cells rx 24 (0, 0))).alloc (.cells ry 24 (0, 0))).alloc (.cells #[.int .u64 0, .int .u64 0, .int .u64 0, .int .u64 0, .int .u64 0] 24 (0, 0)) = W at R0 ⊢
  refine wp_region_below_tail 4 (by kernel_rfl) (by kernel_rfl) ?_
  simp only [List.take_succ_cons, List.take_zero, List.drop_succ_cons, List.drop_zero]
  refine wpQuiet_load_row rfl 24 (.tmp 2) rfl w.heap.size rfl 24 rx (0, 0) _ ?hC Try.underlying24 rfl IX.out ?_
  case hC => rintro w' ⟨p, rfl⟩; exact (R0.out.on p.2).row 0
  simp only [Act.put, List.setIfInBounds_toArray, List.set_cons_zero, List.set_cons_succ]
  go_big_quiet_step (exact calls_below (NX.out _))
  refine wpQuiet_load_row rfl 24 (.tmp 3) rfl (w.heap.size + 1) rfl 24 ry (0, 0) _ ?hC2 Try.underlying24 rfl IY.out ?_
  case hC2 => rintro w' ⟨p, rfl⟩; exact (R0.out.on p.2).row 1
  simp only [Act.put, List.setIfInBounds_toArray, List.set_cons_zero, List.set_cons_succ]
  go_big_quiet_step (exact calls_below (NY.out _))
  refine wpQuiet_nil ?_
  rintro _ ⟨p, rfl⟩
  have R1 := Lib.hid (R0.out.on p.2)
  generalize p.1 = wp at R1 ⊢
  have R2 := Lib.hid ((R1.out.store 0 (nvA (narrow x))).store 1 (nvA (narrow y)))
  have R1' := Lib.hid (R1.out.store 0 (nvA (narrow x)))
  have INX := Lib.hid (infoV (narrow x))
  have INY := Lib.hid (infoV (narrow y))
  have ONX := Lib.hid (one_nvA (narrow x))
  have ONY := Lib.hid (one_nvA (narrow y))
  have LX := Lib.hid (show rx.size = (nvA (narrow x)).size by rw [SX.out]; rfl)
  have LY := Lib.hid (show ry.size = (nvA (narrow y)).size by rw [SY.out]; rfl)
  go_upto_region 2 with (first
    | (with_reducible refine wpList_store_row rfl 24 (.tmp 2) (.tmp 7) rfl w.heap.size (nvA (narrow x)) rfl rfl 24 rx ?hg1 INX.out LX.out ONX.out ?_)
    | (with_reducible refine wpList_store_row rfl 24 (.tmp 3) (.tmp 9) rfl (w.heap.size + 1) (nvA (narrow y)) rfl rfl 24 ry ?hg2 INY.out LY.out ONY.out ?_))
  case hg1 => exact R1.out.row 0
  case hg2 => exact R1'.out.row 1
  generalize (World.setRow wp w.heap.size (nvA (narrow x))).setRow (w.heap.size + 1) (nvA (narrow y)) = w2 at R2 ⊢
  have R2 := Lib.hid (show Rw w [(w.heap.size, rowF (getN (narrow x)), 24), (w.heap.size + 1, rowF (getN (narrow y)), 24), (w.heap.size + 1 + 1, #[.int .u64 0, .int .u64 0, .int .u64 0, .int .u64 0, .int .u64 0], 24)] w2 from R2.out)
  clear R0 R1 R1' NX NY IX IY INX INY ONX ONY LX LY SX SY
  have NF := Lib.hid (fun w => narrow_any (subN (narrow x) (narrow y)) (subN_ok (narrow_nar hx)) w)
  have HOP := Lib.hid (show sub x y = narrow (subN (narrow x) (narrow y)) from rfl)
  have HROW := Lib.hid (show rowF (sbG (getN (narrow x)) (getN (narrow y))) = nvA (subN (narrow x) (narrow y)) from rfl)
  generalize hX : getN (narrow x) = X at *
  generalize hY : getN (narrow y) = Y at *
  generalize subN (narrow x) (narrow y) = S at NF HOP HROW
  clear hX hY hx hy
  generalize hA : w.heap.size = ga at *
  generalize hB : ga + 1 = gb at *
  generalize hC : gb + 1 = gc at *
  clear hB hC
  have HA := Lib.hid hA
  clear hA
  have c0 := R2.out.cell 0 0 (rowF_get _ 0 (by decide))
  have c1 := R2.out.cell 1 0 (rowF_get _ 0 (by decide))
  have f0 := R2.out.free 0 0
  have b0 := BY.out 0
  have a0 := BX.out 0
  have put0 := R2.out.put 0 0 (.int .u64 ((X 0 : Int) + (4503599627370458 - (Y 0 : Int))))
  rw [show (X 0 : Int) + (4503599627370458 - (Y 0 : Int)) = ((sbG X Y 0 : Nat) : Int) by unfold sbG; rw [if_pos rfl]; omega, rowF_set _ _ _ (by decide), show upd X 0 (sbG X Y 0) = prog X (sbG X Y) 1 from by rw [← prog_set, prog_zero]] at put0
  have P0 := Lib.hid put0
  have HS0 := Lib.hid (show (X 0 : Int) + (4503599627370458 - (Y 0 : Int)) = ((sbG X Y 0 : Nat) : Int) by unfold sbG; rw [if_pos rfl]; omega)
  generalize hX0 : X 0 = x0 at c0 a0 HS0
  generalize hY0 : Y 0 = y0 at c1 b0 HS0
  clear put0 hX0 hY0
  go_wp2_with fail
  rw [HS0.out]
  generalize World.setCell _ _ _ = w3 at P0 ⊢
  clear c0 c1 f0 b0 a0
  go_loopw [5] (fun i wr => ∃ j : Nat, 1 ≤ j ∧ j ≤ 5 ∧ i = .int .i64 j ∧ Rw w [(ga, rowF (prog X (sbG X Y) j), 24), (gb, rowF Y, 24), (gc, #[.int .u64 0, .int .u64 0, .int .u64 0, .int .u64 0, .int .u64 0], 24)] wr) (fun i _ => 5 - (intOf i).toNat)
  case atStart => exact ⟨1, by omega, by omega, rfl, P0.out⟩
  case round =>
    obtain ⟨j, hj1, hj, rfl, hr⟩ := hrel
    have R3 := Lib.hid hr
    clear hr
    by_cases hlt : j < 5
    · have j1 : (j : Int) < 5 := by omega
      have j0 : (0 : Int) ≤ j := by omega
      have ca := R3.out.cell 0 j (rowF_get _ j hlt)
      have cb := R3.out.cell 1 j (rowF_get _ j hlt)
      have fa := R3.out.free 0 j
      rw [prog_at] at ca
      have bx := BX.out j
      have bby := BY.out j
      have put := R3.out.put 0 j (.int .u64 ((sbG X Y j : Nat) : Int))
      rw [rowF_set _ _ _ hlt, prog_set X (sbG X Y) j] at put
      have hs : ((sbG X Y j : Nat) : Int) = (X j : Int) + (4503599627370494 - (Y j : Int)) := by unfold sbG; rw [if_neg (by omega)]; omega
      rw [hs] at put
      have PUT := Lib.hid put
      have HLT := Lib.hid hlt
      have HJ1 := Lib.hid hj1
      generalize X j = xj at *
      generalize Y j = yj at *
      clear put hlt hs hj hj1
      go_wp2_with fail
      go_still_tail 9, (by kernel_rfl)
      go_wp2_with fail
      go_roundw
      case rel => exact ⟨j + 1, by omega, HLT.out, by go_num, PUT.out.drew⟩
      case measure => simp [intOf]; omega
    · have j1 : ¬ ((j : Int) < 5) := by omega
      have hj5 : j = 5 := by omega
      have r4 := R3.out
      rw [hj5, prog_end, HROW.out] at r4
      have R4 := Lib.hid r4
      clear r4 hj5 hlt hj R3
      have IS := Lib.hid (infoV S)
      have IN := Lib.hid (infoV (narrow S))
      have ON := Lib.hid (one_nvA (narrow S))
      have LN := Lib.hid (show (#[.int .u64 0, .int .u64 0, .int .u64 0, .int .u64 0, .int .u64 0] : Array Value).size = (nvA (narrow S)).size from rfl)
      have RW4 := Lib.hid (R4.out.row 0)
      go_wp2_with (with_reducible refine wpList_load_row rfl 24 (.tmp 2) rfl ga rfl 24 (nvA S) (0, 0) _ RW4.out Try.underlying24 rfl IS.out ?_)
      refine (NF.out _).mono ?_
      rintro e w5 ⟨rfl, hb5⟩
      have R5 := Lib.hid (R4.out.on hb5)
      have RW5 := Lib.hid (R5.out.row 2)
      clear hb5
      go_wp2_with (with_reducible refine wpList_store_row rfl 24 (.tmp 4) (.tmp 31) rfl gc (nvA (narrow S)) rfl rfl 24 #[.int .u64 0, .int .u64 0, .int .u64 0, .int .u64 0, .int .u64 0] RW5.out IN.out LN.out ON.out ?_)
      have R6 := R5.out.store 2 (nvA (narrow S))
      rw [HOP.out]
      refine bodyPost_ret (results_cell_row rfl _ _ gc 24 (nvA (narrow S)) (0, 0) _ rfl (R6.row 2) Try.underlying24 rfl IN.out) rfl ⟨rfl, ?_⟩
      exact R6.bel
end Go.Proofs.Ythlmphloalbhnaa
