/-
  fe.Swap: the walk.
-/
import Derived.Test.YthlmphloalbhnaaFeI
namespace Go.Proofs.Ythlmphloalbhnaa
open Go.RowKit MS

theorem xor_all (a : Nat) (h : a < 18446744073709551616) : bits .and .u64 (a : Int) 18446744073709551615 = (a : Int) := by
  have := u64_and_nat a 18446744073709551615 h (by decide)
  rw [show ((18446744073709551615 : Nat) : Int) = 18446744073709551615 from rfl] at this
  rw [this, show (18446744073709551615 : Nat) = 2 ^ 64 - 1 from rfl, Nat.and_two_pow_sub_one_eq_mod, Nat.mod_eq_of_lt h]
section
variable {P : Program}
theorem step_load_row {o : Oper} {a : Act} {w : World} {K : Act → World → Prop} {Q : Exit → Act → World → Prop} {Y : Nat → Option Bool} (hgd : o.guard = none) (ty : TypeId) (x : Operand) (ho : o.op = .load ty x)
    (g : Nat) (hx : a.eval x = .pointer (some ⟨g, 0, none⟩)) (t : TypeId) (cs : Array Value) (fr : Nat × Nat) (d : TypeDesc) (hg : w.heap[g]? = some (.cells cs t fr))
    (hu : P.underlying ty = some d) (hd : (match d with | .struct _ | .array _ _ => true | _ => false) = true) (hi : (P.info? ty).map (·.size) = some cs.size)
    (h : K (a.put o.dst (.agg cs)) w) : if Region.wanted o Y = true then Oper.wp P o a w K Q else K (a.put o.dst undef) w := by
  rw [if_pos (by simp [Region.wanted, hgd])]
  exact wp_load_row ty x ho g hx t cs fr d hg hu hd hi h
theorem step_store_row {o : Oper} {a : Act} {w : World} {K : Act → World → Prop} {Q : Exit → Act → World → Prop} {Y : Nat → Option Bool} (hgd : o.guard = none) (ty : TypeId) (x y : Operand) (ho : o.op = .store ty x y)
    (g : Nat) (cells : Array Value) (hx : a.eval x = .pointer (some ⟨g, 0, none⟩)) (hy : a.eval y = .agg cells)
    (t : TypeId) (old : Array Value) (hg : w.heap[g]? = some (.cells old t (0, 0))) (hi : (P.info? ty).map (·.size) = some cells.size)
    (hold : old.size = cells.size) (h1 : cells.all (·.oneCell') = true)
    (h : K (a.put o.dst undef) (w.setRow g cells)) : if Region.wanted o Y = true then Oper.wp P o a w K Q else K (a.put o.dst undef) w := by
  rw [if_pos (by simp [Region.wanted, hgd])]
  exact wp_store_row ty x y ho g cells hx hy t old hg hi hold h1 h
theorem results_two_rows {fn : Func} {p q : Tmp} {ty tz : TypeId} (h : fn.results = #[.cell p ty, .cell q tz]) (tmps : Array Value) (w : World) (g k : Nat) (t s : TypeId) (cs ds : Array Value) (fr fs : Nat × Nat) (d e : TypeDesc)
    (hp : tmps.getD p undef = .pointer (some ⟨g, 0, none⟩)) (hq : tmps.getD q undef = .pointer (some ⟨k, 0, none⟩)) (hg : w.heap[g]? = some (.cells cs t fr)) (hk : w.heap[k]? = some (.cells ds s fs))
    (hu : P.underlying ty = some d) (hd : (match d with | .struct _ | .array _ _ => true | _ => false) = true) (hi : (P.info? ty).map (·.size) = some cs.size)
    (hv : P.underlying tz = some e) (he : (match e with | .struct _ | .array _ _ => true | _ => false) = true) (hj : (P.info? tz).map (·.size) = some ds.size) :
    (results fn tmps).run P w = .ok (.tuple #[.agg cs, .agg ds]) w := by
  have hp' : tmps[p]?.getD undef = .pointer (some ⟨g, 0, none⟩) := by simpa using hp
  have hq' : tmps[q]?.getD undef = .pointer (some ⟨k, 0, none⟩) := by simpa using hq
  simp [results, h, hp', hq', asAddr, run_loadVar_row w g t ty cs fr d hg hu hd hi, run_loadVar_row w k s tz ds fs e hk hv he hj]
end
theorem all_ones : bits .xor .u64 IntKind.u64.max 0 = 18446744073709551615 := by
  have := u64_xor_nat 18446744073709551615 0 (by decide) (by decide)
  rw [Nat.xor_zero] at this
  exact this
theorem and_none (a : Nat) (h : a < 18446744073709551616) : bits .and .u64 (a : Int) 0 = 0 := by
  have := u64_and_nat a 0 h (by decide)
  rw [Nat.and_zero] at this
  exact this
theorem rw4 (w : World) (r0 r1 r2 r3 : Array Value) : Rw w [(w.heap.size, r0, 24), (w.heap.size + 1, r1, 24), (w.heap.size + 1 + 1, r2, 24), (w.heap.size + 1 + 1 + 1, r3, 24)]
    ((((w.alloc (.cells r0 24 (0, 0))).alloc (.cells r1 24 (0, 0))).alloc (.cells r2 24 (0, 0))).alloc (.cells r3 24 (0, 0))) := by
  have h := ((((Rw.nil w).alloc r0 24).alloc r1 24).alloc r2 24).alloc r3 24
  simpa using h
theorem ok_get {x : N5} (h : x.ok) (j : Nat) : getN x j < 18446744073709551616 := by
  obtain ⟨h1, h2, h3, h4, h5⟩ := h
  unfold getN
  split <;> assumption
def sel (b : Bool) (x y : Nat) : Nat := if b then x else y
/-- What Swap makes of the first and of the second. -/
def swA (x y : N5) (yes : Bool) : N5 := if yes then y else x

set_option maxRecDepth 100000 in
set_option maxHeartbeats 2000000 in
theorem swap_any (x y : N5) (yes : Bool) (hx : x.ok) (hy : y.ok) (w : World) :
    Calls Try.prog 27 #[.agg (nvA x), .agg (nvA y), .bool yes] w fun e w' => e = .returned (.tuple #[.agg (nvA (swA x y yes)), .agg (nvA (swA y x yes))]) ∧ Below w.heap.size w w' := by
  have BX := Lib.hid (ok_get hx)
  have BY := Lib.hid (ok_get hy)
  have R0 := Lib.hid (show Rw w [(w.heap.size, rowF (getN x), 24), (w.heap.size + 1, rowF (getN y), 24), (w.heap.size + 1 + 1, rowF (fun _ => 0), 24), (w.heap.size + 1 + 1 + 1, rowF (fun _ => 0), 24)] ((((w.alloc (.cells (nvA x) 24 (0, 0))).alloc (.cells (nvA y) 24 (0, 0))).alloc (.cells #[.int .u64 0, .int .u64 0, .int .u64 0, .int .u64 0, .int .u64 0] 24 (0, 0))).alloc (.cells #[.int .u64 0, .int .u64 0, .int .u64 0, .int .u64 0, .int .u64 0] 24 (0, 0))) from rw4 w (nvA x) (nvA y) (rowF (fun _ => 0)) (rowF (fun _ => 0)))
  have HA := Lib.hid (show rowF (fun i => sel yes (getN y i) (getN x i)) = nvA (swA x y yes) by cases yes <;> rfl)
  have HB := Lib.hid (show rowF (fun i => sel yes (getN x i) (getN y i)) = nvA (swA y x yes) by cases yes <;> rfl)
  have II := Lib.hid (fun y => infoV y)
  have OO := Lib.hid (fun y => one_nvA y)
  generalize swA x y yes = ra at *
  generalize swA y x yes = rb at *
  generalize hrx : nvA x = rx at *
  generalize hry : nvA y = ry at *
  generalize hX : getN x = X at *
  generalize hY : getN y = Y at *
  clear hrx hry hX hY hx hy
  have hsg : ¬ (IntKind.u64.signed = true) := by decide
  obtain ⟨AL, hAL⟩ : ∃ AL : Int, bits .xor .u64 IntKind.u64.max 0 = AL := ⟨_, rfl⟩
  have PAL := Lib.hid (show ∀ a : Nat, a < 18446744073709551616 → bits .and .u64 (a : Int) AL = (a : Int) from fun a h => by rw [← hAL, all_ones]; exact xor_all a h)
  by_cases hyes : yes = true
  case' pos =>
    rw [hyes]
    have HYE := Lib.hid hyes
    clear hyes
    go_enter Try.func27, Try.ntmps27
    go_upto_region 1 with fail
    generalize (((w.alloc (.cells rx 24 (0, 0))).alloc (.cells ry 24 (0, 0))).alloc (.cells #[.int .u64 0, .int .u64 0, .int .u64 0, .int .u64 0, .int .u64 0] 24 (0, 0))).alloc (.cells #[.int .u64 0, .int .u64 0, .int .u64 0, .int .u64 0, .int .u64 0] 24 (0, 0)) = W at R0 ⊢
    go_wp2_with fail
    have PM := Lib.hid (show ∀ a : Nat, a < 18446744073709551616 → bits .and .u64 (a : Int) AL = ((sel yes a 0 : Nat) : Int) from fun a h => by rw [HYE.out]; exact PAL.out a h)
    generalize AL = M at PM ⊢
  case' neg =>
    have hyes' : yes = false := by simpa using hyes
    rw [hyes']
    have HYE := Lib.hid hyes'
    clear hyes hyes'
    go_enter Try.func27, Try.ntmps27
    go_upto_region 1 with fail
    generalize (((w.alloc (.cells rx 24 (0, 0))).alloc (.cells ry 24 (0, 0))).alloc (.cells #[.int .u64 0, .int .u64 0, .int .u64 0, .int .u64 0, .int .u64 0] 24 (0, 0))).alloc (.cells #[.int .u64 0, .int .u64 0, .int .u64 0, .int .u64 0, .int .u64 0] 24 (0, 0)) = W at R0 ⊢
    go_wp2_with fail
    have PM := Lib.hid (show ∀ a : Nat, a < 18446744073709551616 → bits .and .u64 (a : Int) 0 = ((sel yes a 0 : Nat) : Int) from fun a h => by rw [HYE.out]; exact and_none a h)
    obtain ⟨M, hM⟩ : ∃ M : Int, (0 : Int) = M := ⟨_, rfl⟩
    rw [hM] at PM
    have HM0 := Lib.hid hM
    rw [show Value.int IntKind.u64 0 = Value.int IntKind.u64 M from by rw [hM]]
    clear hM
  all_goals
    clear hAL PAL hsg
    generalize hga : w.heap.size = ga at *
    generalize hgb : ga + 1 = gb at *
    generalize hgc : gb + 1 = gc at *
    generalize hgd : gc + 1 = gd at *
    clear hga hgb hgc hgd
    go_loopw [14] (fun c wr => ∃ j : Nat, j ≤ 5 ∧ c = .int .i64 j ∧ Rw w [(ga, rowF (prog X (fun i => sel yes (Y i) (X i)) j), 24), (gb, rowF (prog Y (fun i => sel yes (X i) (Y i)) j), 24), (gc, rowF (fun _ => 0), 24), (gd, rowF (fun _ => 0), 24)] wr) (fun c _ => 5 - (intOf c).toNat)
    case atStart => exact ⟨0, by omega, rfl, by rw [prog_zero, prog_zero]; exact R0.out⟩
    case round =>
      obtain ⟨j, hj, rfl, hr⟩ := hrel
      have R1 := Lib.hid hr
      clear hr R0
      by_cases hlt : j < 5
      · have j1 : (j : Int) < 5 := by omega
        have j0 : (0 : Int) ≤ j := by omega
        have HLT := Lib.hid hlt
        have ca := R1.out.cell 0 j (rowF_get _ _ hlt)
        have cb := R1.out.cell 1 j (rowF_get _ _ hlt)
        rw [prog_at] at ca cb
        have bx := BX.out j
        have bb := BY.out j
        obtain ⟨x1, hx1⟩ : ∃ c, X j ^^^ Y j = c := ⟨_, rfl⟩
        have q1 := u64_xor_nat (X j) (Y j) bx bb
        rw [hx1] at q1
        have bx1 : x1 < 18446744073709551616 := by rw [← hx1]; exact Nat.xor_lt_two_pow (n := 64) bx bb
        obtain ⟨d, hd⟩ : ∃ d, sel yes x1 0 = d := ⟨_, rfl⟩
        have q2 := PM.out x1 bx1
        rw [hd] at q2
        have bd : d < 18446744073709551616 := by rw [← hd, sel]; split; exact bx1; decide
        have q3 := u64_xor_nat (X j) d bx bd
        have q4 := u64_xor_nat (Y j) d bb bd
        have e3 : X j ^^^ d = sel yes (Y j) (X j) := by
          rw [← hd, ← hx1]
          cases yes
          · simp [sel]
          · simp [sel, ← Nat.xor_assoc]
        have e4 : Y j ^^^ d = sel yes (X j) (Y j) := by
          rw [← hd, ← hx1]
          cases yes
          · simp [sel]
          · simp [sel, Nat.xor_comm (X j), ← Nat.xor_assoc]
        rw [e3] at q3
        rw [e4] at q4
        clear e3 e4 hd hx1 bx bb bx1 bd
        have Q3 := Lib.hid q3
        have Q4 := Lib.hid q4
        clear q3 q4
        go_wp2_with fail
        go_quiet (fail)
        have R2 := Lib.hid (R1.out.drewN nq)
        generalize wr.drewN nq = w8 at R2 ⊢
        clear q1 q2 ca cb
        have ca := R2.out.cell 0 j (rowF_get _ _ HLT.out)
        rw [prog_at] at ca
        have fa := R2.out.free 0 j
        have q3 := Q3.out
        have put := R2.out.put 0 j (.int .u64 ((sel yes (Y j) (X j) : Nat) : Int))
        have cb := put.cell 1 j (rowF_get _ _ HLT.out)
        rw [prog_at] at cb
        have fb := put.free 1 j
        have q4 := Q4.out
        have put2 := put.put 1 j (.int .u64 ((sel yes (X j) (Y j) : Nat) : Int))
        rw [rowF_set _ _ _ HLT.out, rowF_set _ _ _ HLT.out, prog_set X (fun i => sel yes (Y i) (X i)) j, prog_set Y (fun i => sel yes (X i) (Y i)) j] at put2
        have PUT := Lib.hid put2
        generalize sel yes (Y j) (X j) = xa at *
        generalize sel yes (X j) (Y j) = ya at *
        clear put put2
        go_wp2_with fail
        go_roundw
        case rel => exact ⟨j + 1, HLT.out, by go_num, PUT.out⟩
        case measure => simp [intOf]; omega
      · have j1 : ¬ ((j : Int) < 5) := by omega
        have hj5 : j = 5 := by omega
        have r2 := R1.out
        rw [hj5, prog_end, prog_end, HA.out, HB.out] at r2
        have R2 := Lib.hid r2
        clear r2 hj5 hlt hj R1
        have IA := Lib.hid (II.out ra)
        have IB := Lib.hid (II.out rb)
        have OA := Lib.hid (OO.out ra)
        have OB := Lib.hid (OO.out rb)
        have LA := Lib.hid (show (rowF (fun _ => 0)).size = (nvA ra).size from rfl)
        have LB := Lib.hid (show (rowF (fun _ => 0)).size = (nvA rb).size from rfl)
        have RA := Lib.hid (R2.out.row 0)
        have RB := Lib.hid (R2.out.row 1)
        have RC := Lib.hid (R2.out.drew.row 2)
        have R3 := Lib.hid (R2.out.drew.store 2 (nvA ra))
        have RB3 := Lib.hid (R3.out.row 1)
        have RD := Lib.hid (R3.out.row 3)
        have R4 := Lib.hid (R3.out.store 3 (nvA rb))
        go_wp2_with fail
        refine wp_region_any (by kernel_rfl) ?_
        change wpAny _ _ _ _ _ _ _ (World.drew _)
        refine wpAny_ready (rs := [0, 1]) (by kernel_rfl) (by simp) ?_
        refine AllReady.cons rfl (fun K hK => ?_) (AllReady.cons rfl (fun K hK => ?_) AllReady.nil)
        · skip
          refine step_load_row (by rfl) 24 (.tmp 3) (by rfl) ga (by rfl) 24 (nvA ra) (0, 0) _ RA.out Try.underlying24 rfl IA.out (hK _ _ ?_)
          clear hK K
          simp only [List.getElem_toArray, List.getElem_cons_zero, Act.put, List.setIfInBounds_toArray, List.set_cons_zero, List.set_cons_succ]
          refine wpAny_ready (rs := [1, 2]) (by kernel_rfl) (by simp) ?_
          refine AllReady.cons rfl (fun K hK => ?_) (AllReady.cons rfl (fun K hK => ?_) AllReady.nil)
          · skip
            refine step_load_row (by rfl) 24 (.tmp 4) (by rfl) gb (by rfl) 24 (nvA rb) (0, 0) _ RB.out Try.underlying24 rfl IB.out (hK _ _ ?_)
            clear hK K
            simp only [List.getElem_toArray, List.getElem_cons_zero, List.getElem_cons_succ, Act.put, List.setIfInBounds_toArray, List.set_cons_zero, List.set_cons_succ]
            refine wpAny_ready (rs := [2]) (by kernel_rfl) (by simp) ?_
            refine AllReady.cons rfl (fun K hK => ?_) AllReady.nil
            refine step_store_row (by rfl) 24 (.tmp 6) (.tmp 39) (by rfl) gc (nvA ra) (by rfl) (by rfl) 24 (rowF (fun _ => 0)) RC.out IA.out LA.out OA.out (hK _ _ ?_)
            clear hK K
            simp only [List.getElem_toArray, List.getElem_cons_zero, List.getElem_cons_succ, Act.put]
            refine wpAny_ready (rs := [3]) (by kernel_rfl) (by simp) ?_
            refine AllReady.cons rfl (fun K hK => ?_) AllReady.nil
            refine step_store_row (by rfl) 24 (.tmp 7) (.tmp 40) (by rfl) gd (nvA rb) (by rfl) (by rfl) 24 (rowF (fun _ => 0)) RD.out IB.out LB.out OB.out (hK _ _ ?_)
            clear hK K
            simp only [List.getElem_toArray, List.getElem_cons_zero, List.getElem_cons_succ, Act.put]
            refine wpAny_done (by kernel_rfl) ?_ _
            go_wp2_with fail
            exact bodyPost_ret (results_two_rows rfl _ _ gc gd 24 24 (nvA ra) (nvA rb) (0, 0) (0, 0) _ _ rfl rfl (R4.out.row 2) (R4.out.row 3) Try.underlying24 rfl IA.out Try.underlying24 rfl IB.out) rfl ⟨rfl, R4.out.bel⟩
          · skip
            refine step_store_row (by rfl) 24 (.tmp 6) (.tmp 39) (by rfl) gc (nvA ra) (by rfl) (by rfl) 24 (rowF (fun _ => 0)) RC.out IA.out LA.out OA.out (hK _ _ ?_)
            clear hK K
            simp only [List.getElem_toArray, List.getElem_cons_zero, List.getElem_cons_succ, Act.put]
            refine wpAny_ready (rs := [1]) (by kernel_rfl) (by simp) ?_
            refine AllReady.cons rfl (fun K hK => ?_) AllReady.nil
            refine step_load_row (by rfl) 24 (.tmp 4) (by rfl) gb (by rfl) 24 (nvA rb) (0, 0) _ RB3.out Try.underlying24 rfl IB.out (hK _ _ ?_)
            clear hK K
            simp only [List.getElem_toArray, List.getElem_cons_zero, List.getElem_cons_succ, Act.put, List.setIfInBounds_toArray, List.set_cons_zero, List.set_cons_succ]
            refine wpAny_ready (rs := [3]) (by kernel_rfl) (by simp) ?_
            refine AllReady.cons rfl (fun K hK => ?_) AllReady.nil
            refine step_store_row (by rfl) 24 (.tmp 7) (.tmp 40) (by rfl) gd (nvA rb) (by rfl) (by rfl) 24 (rowF (fun _ => 0)) RD.out IB.out LB.out OB.out (hK _ _ ?_)
            clear hK K
            simp only [List.getElem_toArray, List.getElem_cons_zero, List.getElem_cons_succ, Act.put]
            refine wpAny_done (by kernel_rfl) ?_ _
            go_wp2_with fail
            exact bodyPost_ret (results_two_rows rfl _ _ gc gd 24 24 (nvA ra) (nvA rb) (0, 0) (0, 0) _ _ rfl rfl (R4.out.row 2) (R4.out.row 3) Try.underlying24 rfl IA.out Try.underlying24 rfl IB.out) rfl ⟨rfl, R4.out.bel⟩
        · skip
          refine step_load_row (by rfl) 24 (.tmp 4) (by rfl) gb (by rfl) 24 (nvA rb) (0, 0) _ RB.out Try.underlying24 rfl IB.out (hK _ _ ?_)
          clear hK K
          simp only [List.getElem_toArray, List.getElem_cons_zero, List.getElem_cons_succ, Act.put, List.setIfInBounds_toArray, List.set_cons_zero, List.set_cons_succ]
          refine wpAny_ready (rs := [0]) (by kernel_rfl) (by simp) ?_
          refine AllReady.cons rfl (fun K hK => ?_) AllReady.nil
          refine step_load_row (by rfl) 24 (.tmp 3) (by rfl) ga (by rfl) 24 (nvA ra) (0, 0) _ RA.out Try.underlying24 rfl IA.out (hK _ _ ?_)
          clear hK K
          simp only [List.getElem_toArray, List.getElem_cons_zero, Act.put, List.setIfInBounds_toArray, List.set_cons_zero, List.set_cons_succ]
          refine wpAny_ready (rs := [2]) (by kernel_rfl) (by simp) ?_
          refine AllReady.cons rfl (fun K hK => ?_) AllReady.nil
          refine step_store_row (by rfl) 24 (.tmp 6) (.tmp 39) (by rfl) gc (nvA ra) (by rfl) (by rfl) 24 (rowF (fun _ => 0)) RC.out IA.out LA.out OA.out (hK _ _ ?_)
          clear hK K
          simp only [List.getElem_toArray, List.getElem_cons_zero, List.getElem_cons_succ, Act.put]
          refine wpAny_ready (rs := [3]) (by kernel_rfl) (by simp) ?_
          refine AllReady.cons rfl (fun K hK => ?_) AllReady.nil
          refine step_store_row (by rfl) 24 (.tmp 7) (.tmp 40) (by rfl) gd (nvA rb) (by rfl) (by rfl) 24 (rowF (fun _ => 0)) RD.out IB.out LB.out OB.out (hK _ _ ?_)
          clear hK K
          simp only [List.getElem_toArray, List.getElem_cons_zero, List.getElem_cons_succ, Act.put]
          refine wpAny_done (by kernel_rfl) ?_ _
          go_wp2_with fail
          exact bodyPost_ret (results_two_rows rfl _ _ gc gd 24 24 (nvA ra) (nvA rb) (0, 0) (0, 0) _ _ rfl rfl (R4.out.row 2) (R4.out.row 3) Try.underlying24 rfl IA.out Try.underlying24 rfl IB.out) rfl ⟨rfl, R4.out.bel⟩
end Go.Proofs.Ythlmphloalbhnaa
