/-
  ring.Rotate: the walks.
-/
import Derived.Test.YtfckjilhkdlpfaaGreatDoorRkG
namespace Go.Proofs.YtfckjilhkdlpfaaGreatDoor
open Go.RowKit MS

section
variable {P : Program} {ops : Array Oper} {Q : Exit → Act → World → Prop}
theorem wpOp_mk {i d : Nat} {o : Oper} {v : Value} {K : Act → World → Prop} {a : Act} {w w2 : World} (hi : ops[i]? = some o) (hw : Region.wanted o (yielded ops a.tmps) = true) (hd : o.dst = some d)
    (hrun : (execOp a.eval o).run P w = .ok (.value v) w2) (h : K (a.put (some d) v) w2) : wpOp P ops Q i K a w := by
  unfold wpOp
  simp only [hi]
  rw [if_pos hw]
  refine .inl ?_
  unfold Oper.wp
  rw [hrun]
  simp only [Oper.upon, hd]
  exact h
end

set_option maxRecDepth 1000000 in
set_option maxHeartbeats 4000000 in
theorem rotate_err (a : Acc) (pw : ByteArray) (f : Fre) (w : World) (G : Glob w) (hp0 : pw.size ≤ 1000) (n : Int) (hu : unlB a pw = .err n) (hn : n ≠ 0) :
    Calls Tryz.prog 10 #[a.v, .string pw, f.v] w fun e w' => e = .returned (.tuple #[noAcc.v, .int .i64 n]) ∧ Below w.heap.size w w' := by
  have U := Lib.hid (fun w G => unlock_any a pw w hp0 G)
  rw [hu] at U
  obtain ⟨user, salt, rounds, epoch, pub, nonce, wrapped, old⟩ := a
  obtain ⟨fs, fn, fp, fr⟩ := f
  unfold Fre.v Acc.v at *
  simp only at *
  have R0 := Lib.hid (rwAF w user salt rounds epoch pub nonce wrapped old fs fn fp fr 23 25 23)
  have IX := Lib.hid (infoAcc user salt rounds epoch pub nonce wrapped old)
  have HG := Lib.hid G
  have IA := Lib.hid (infoAcc ⟨#[]⟩ ⟨#[]⟩ 0 0 ⟨#[]⟩ ⟨#[]⟩ ⟨#[]⟩ ⟨#[]⟩)
  have n1 : (n != 0) = true := by simpa using hn
  clear hu hp0 G
  go_enter Tryz.func10, Tryz.ntmps10
  go_upto_region 1 with fail
  generalize ((w.alloc (.cells #[.string user, .string salt, .int .i64 rounds, .int .i64 epoch, .string pub, .string nonce, .string wrapped, .string old] 23 (0, 0))).alloc (.cells #[.string fs, .string fn, .string fp, .int .i64 fr] 25 (0, 0))).alloc _ = W at R0 ⊢
  generalize w.heap.size = ga at *
  generalize hgb : ga + 1 = gb at *
  have RA := Lib.hid (R0.out.row 0)
  have G0 := Lib.hid (HG.out.on R0.out.bel)
  go_wp2_with (with_reducible refine wpList_load_row rfl 23 (.tmp 3) rfl ga rfl 23 (accA user salt rounds epoch pub nonce wrapped old) (0, 0) _ RA.out Tryz.underlying23 rfl IX.out ?_)
  refine (U.out _ G0.out).mono ?_
  rintro e w1 ⟨h, hb⟩
  obtain rfl := h
  have R1 := Lib.hid (R0.out.on hb)
  have R2 := Lib.hid (R1.out.store 2 (accA ⟨#[]⟩ ⟨#[]⟩ 0 0 ⟨#[]⟩ ⟨#[]⟩ ⟨#[]⟩ ⟨#[]⟩))
  have RB := Lib.hid (R1.out.row 2)
  clear hb R0 U RA
  go_wp2_with (with_reducible refine wpList_store_row rfl 23 (.tmp 6) (.tmp 21) rfl (gb + 1) (accA ⟨#[]⟩ ⟨#[]⟩ 0 0 ⟨#[]⟩ ⟨#[]⟩ ⟨#[]⟩ ⟨#[]⟩) rfl rfl 23 (accA ⟨#[]⟩ ⟨#[]⟩ 0 0 ⟨#[]⟩ ⟨#[]⟩ ⟨#[]⟩ ⟨#[]⟩) RB.out IA.out rfl (one_accA _ _ _ _ _ _ _ _) ?_)
  exact bodyPost_ret (results_row_slot rfl _ _ (gb + 1) 23 (accA ⟨#[]⟩ ⟨#[]⟩ 0 0 ⟨#[]⟩ ⟨#[]⟩ ⟨#[]⟩ ⟨#[]⟩) (0, 0) _ (.int .i64 n) rfl rfl (R2.out.row 2) Tryz.underlying23 rfl IA.out) rfl ⟨rfl, R2.out.bel⟩
set_option maxRecDepth 1000000 in
set_option maxHeartbeats 4000000 in
theorem rotate_two (a : Acc) (pw : ByteArray) (f : Fre) (w : World) (G : Glob w) (hp0 : pw.size ≤ 1000) (k o : ByteArray) (hu : unlB a pw = .two k o) :
    Calls Tryz.prog 10 #[a.v, .string pw, f.v] w fun e w' => e = .returned (.tuple #[noAcc.v, .int .i64 8]) ∧ Below w.heap.size w w' := by
  have U := Lib.hid (fun w G => unlock_any a pw w hp0 G)
  rw [hu] at U
  have ho := (unl_two hu).2.2.2.2
  obtain ⟨user, salt, rounds, epoch, pub, nonce, wrapped, old⟩ := a
  obtain ⟨fs, fn, fp, fr⟩ := f
  unfold Fre.v Acc.v at *
  simp only at *
  have R0 := Lib.hid (rwAF w user salt rounds epoch pub nonce wrapped old fs fn fp fr 23 25 23)
  have IX := Lib.hid (infoAcc user salt rounds epoch pub nonce wrapped old)
  have HG := Lib.hid G
  have IA := Lib.hid (infoAcc ⟨#[]⟩ ⟨#[]⟩ 0 0 ⟨#[]⟩ ⟨#[]⟩ ⟨#[]⟩ ⟨#[]⟩)
  have oe : old.toList.isEmpty = false := by
    rw [isEmpty_size]; simp [ho]
  clear hu hp0 G ho
  go_enter Tryz.func10, Tryz.ntmps10
  go_upto_region 1 with fail
  generalize ((w.alloc (.cells #[.string user, .string salt, .int .i64 rounds, .int .i64 epoch, .string pub, .string nonce, .string wrapped, .string old] 23 (0, 0))).alloc (.cells #[.string fs, .string fn, .string fp, .int .i64 fr] 25 (0, 0))).alloc _ = W at R0 ⊢
  generalize w.heap.size = ga at *
  generalize hgb : ga + 1 = gb at *
  have RA := Lib.hid (R0.out.row 0)
  have G0 := Lib.hid (HG.out.on R0.out.bel)
  go_wp2_with (with_reducible refine wpList_load_row rfl 23 (.tmp 3) rfl ga rfl 23 (accA user salt rounds epoch pub nonce wrapped old) (0, 0) _ RA.out Tryz.underlying23 rfl IX.out ?_)
  refine (U.out _ G0.out).mono ?_
  rintro e w1 ⟨⟨gk, hge, rfl, hrow⟩, hb⟩
  have R1 := Lib.hid (R0.out.join hb hge hrow)
  clear hrow hge hb R0 U RA G0
  have c7 := R1.out.cell 0 7 (cs := accA user salt rounds epoch pub nonce wrapped old) (v := .string old) rfl
  have R3 := Lib.hid (R1.out.store 2 (accA ⟨#[]⟩ ⟨#[]⟩ 0 0 ⟨#[]⟩ ⟨#[]⟩ ⟨#[]⟩ ⟨#[]⟩))
  have RB := Lib.hid (R1.out.row 2)
  clear R1
  go_wp2_with (with_reducible refine wpList_store_row rfl 23 (.tmp 6) (.tmp 26) rfl (gb + 1) (accA ⟨#[]⟩ ⟨#[]⟩ 0 0 ⟨#[]⟩ ⟨#[]⟩ ⟨#[]⟩ ⟨#[]⟩) rfl rfl 23 (accA ⟨#[]⟩ ⟨#[]⟩ 0 0 ⟨#[]⟩ ⟨#[]⟩ ⟨#[]⟩ ⟨#[]⟩) RB.out IA.out rfl (one_accA _ _ _ _ _ _ _ _) ?_)
  exact bodyPost_ret (results_row_slot rfl _ _ (gb + 1) 23 (accA ⟨#[]⟩ ⟨#[]⟩ 0 0 ⟨#[]⟩ ⟨#[]⟩ ⟨#[]⟩ ⟨#[]⟩) (0, 0) _ (.int .i64 8) rfl rfl (R3.out.row 2) Tryz.underlying23 rfl IA.out) rfl ⟨rfl, R3.out.bel⟩
set_option maxRecDepth 1000000 in
set_option maxHeartbeats 4000000 in
theorem rotate_no (a : Acc) (pw : ByteArray) (f : Fre) (w : World) (G : Glob w) (hp0 : pw.size ≤ 1000) (k : ByteArray) (hu : unlB a pw = .one k) (hf : f.ok = false) :
    Calls Tryz.prog 10 #[a.v, .string pw, f.v] w fun e w' => e = .returned (.tuple #[noAcc.v, .int .i64 1]) ∧ Below w.heap.size w w' := by
  have U := Lib.hid (fun w G => unlock_any a pw w hp0 G)
  rw [hu] at U
  have ho := (unl_one hu).2.2.2
  have FF := Lib.hid (fun w => rightFresh_any f w)
  rw [hf] at FF
  obtain ⟨user, salt, rounds, epoch, pub, nonce, wrapped, old⟩ := a
  obtain ⟨fs, fn, fp, fr⟩ := f
  unfold Fre.v Acc.v at *
  simp only at *
  have R0 := Lib.hid (rwAF w user salt rounds epoch pub nonce wrapped old fs fn fp fr 23 25 23)
  have IX := Lib.hid (infoAcc user salt rounds epoch pub nonce wrapped old)
  have HG := Lib.hid G
  have IA := Lib.hid (infoAcc ⟨#[]⟩ ⟨#[]⟩ 0 0 ⟨#[]⟩ ⟨#[]⟩ ⟨#[]⟩ ⟨#[]⟩)
  have oe : old.toList.isEmpty = true := by rw [isEmpty_size, ho]; rfl
  clear hu hp0 G ho hf
  go_enter Tryz.func10, Tryz.ntmps10
  go_upto_region 1 with fail
  generalize ((w.alloc (.cells #[.string user, .string salt, .int .i64 rounds, .int .i64 epoch, .string pub, .string nonce, .string wrapped, .string old] 23 (0, 0))).alloc (.cells #[.string fs, .string fn, .string fp, .int .i64 fr] 25 (0, 0))).alloc _ = W at R0 ⊢
  generalize w.heap.size = ga at *
  generalize hgb : ga + 1 = gb at *
  have RA := Lib.hid (R0.out.row 0)
  have G0 := Lib.hid (HG.out.on R0.out.bel)
  go_wp2_with (with_reducible refine wpList_load_row rfl 23 (.tmp 3) rfl ga rfl 23 (accA user salt rounds epoch pub nonce wrapped old) (0, 0) _ RA.out Tryz.underlying23 rfl IX.out ?_)
  refine (U.out _ G0.out).mono ?_
  rintro e w1 ⟨⟨gk, hge, rfl, hrow⟩, hb⟩
  have R1 := Lib.hid (R0.out.join hb hge hrow)
  clear hrow hge hb R0 U RA G0
  have c7 := R1.out.cell 0 7 (cs := accA user salt rounds epoch pub nonce wrapped old) (v := .string old) rfl
  obtain ⟨d0, d1, d2, d3⟩ := fre_cells R1.out 1 rfl
  go_wp2_with fail
  refine (FF.out _).mono ?_
  rintro e w2 ⟨rfl, hb⟩
  have R2 := Lib.hid (R1.out.on hb)
  have R3 := Lib.hid (R2.out.store 2 (accA ⟨#[]⟩ ⟨#[]⟩ 0 0 ⟨#[]⟩ ⟨#[]⟩ ⟨#[]⟩ ⟨#[]⟩))
  have RB := Lib.hid (R2.out.row 2)
  clear hb R1 FF c7 d0 d1 d2 d3
  go_wp2_with (with_reducible refine wpList_store_row rfl 23 (.tmp 6) (.tmp 30) rfl (gb + 1) (accA ⟨#[]⟩ ⟨#[]⟩ 0 0 ⟨#[]⟩ ⟨#[]⟩ ⟨#[]⟩ ⟨#[]⟩) rfl rfl 23 (accA ⟨#[]⟩ ⟨#[]⟩ 0 0 ⟨#[]⟩ ⟨#[]⟩ ⟨#[]⟩ ⟨#[]⟩) RB.out IA.out rfl (one_accA _ _ _ _ _ _ _ _) ?_)
  exact bodyPost_ret (results_row_slot rfl _ _ (gb + 1) 23 (accA ⟨#[]⟩ ⟨#[]⟩ 0 0 ⟨#[]⟩ ⟨#[]⟩ ⟨#[]⟩ ⟨#[]⟩) (0, 0) _ (.int .i64 1) rfl rfl (R3.out.row 2) Tryz.underlying23 rfl IA.out) rfl ⟨rfl, R3.out.bel⟩
set_option maxRecDepth 1000000 in
set_option maxHeartbeats 4000000 in
theorem rotate_yes (a : Acc) (pw : ByteArray) (f : Fre) (w : World) (G : Glob w) (hp0 : pw.size ≤ 1000) (k : ByteArray) (hu : unlB a pw = .one k) (hf : f.ok = true) :
    Calls Tryz.prog 10 #[a.v, .string pw, f.v] w fun e w' => e = .returned (.tuple #[(rotY a pw f k).v, .int .i64 0]) ∧ Below w.heap.size w w' := by
  have U := Lib.hid (fun w G => unlock_any a pw w hp0 G)
  rw [hu] at U
  have h1 := unl_one hu
  have h2 := Acc.fits_of h1.1
  have ho := h1.2.2.2
  have hk := h1.2.1
  have he := h2.e
  have hw2 := wr_new (user := a.user) (e := 1 - a.epoch) (f := f) h2.user (by omega) hf
  have FF := Lib.hid (fun w => rightFresh_any f w)
  rw [hf] at FF
  have PB := Lib.hid (fun w => public_yes f.priv w (fre_priv hf))
  have WR := Lib.hid (fun gk w G hg => wrap2_any (newA a.user (1 - a.epoch) f.priv) pw f f.priv k gk w G hw2 hk hp0 hg)
  rw [show wrapB2 (newA a.user (1 - a.epoch) f.priv) pw f f.priv k = rotY a pw f k from rfl] at WR
  generalize rotY a pw f k = Q at *
  obtain ⟨z0, z1, z2, z3, z4, z5, z6, z7⟩ := Q
  clear h1 h2 hw2
  obtain ⟨user, salt, rounds, epoch, pub, nonce, wrapped, old⟩ := a
  obtain ⟨fs, fn, fp, fr⟩ := f
  unfold Fre.v Acc.v newA bs at *
  simp only at *
  have R0 := Lib.hid (rwAF w user salt rounds epoch pub nonce wrapped old fs fn fp fr 23 25 23)
  have IX := Lib.hid (infoAcc user salt rounds epoch pub nonce wrapped old)
  have HG := Lib.hid G
  have IA := Lib.hid (infoAcc z0 z1 z2 z3 z4 z5 z6 z7)
  have oe : old.toList.isEmpty = true := by rw [isEmpty_size, ho]; rfl
  have e0 : (0 : Int) ≤ epoch := by omega
  have e1 : epoch ≤ 1 := by omega
  generalize xB fp baseB = x at *
  clear hu hp0 G ho hf hk he
  go_enter Tryz.func10, Tryz.ntmps10
  go_upto_region 1 with fail
  generalize ((w.alloc (.cells #[.string user, .string salt, .int .i64 rounds, .int .i64 epoch, .string pub, .string nonce, .string wrapped, .string old] 23 (0, 0))).alloc (.cells #[.string fs, .string fn, .string fp, .int .i64 fr] 25 (0, 0))).alloc _ = W at R0 ⊢
  generalize w.heap.size = ga at *
  generalize hgb : ga + 1 = gb at *
  have RA := Lib.hid (R0.out.row 0)
  have G0 := Lib.hid (HG.out.on R0.out.bel)
  go_wp2_with (with_reducible refine wpList_load_row rfl 23 (.tmp 3) rfl ga rfl 23 (accA user salt rounds epoch pub nonce wrapped old) (0, 0) _ RA.out Tryz.underlying23 rfl IX.out ?_)
  refine (U.out _ G0.out).mono ?_
  rintro e w1 ⟨⟨gk, hge, rfl, hrow⟩, hb⟩
  have R1 := Lib.hid (R0.out.join hb hge hrow)
  clear hrow hge hb R0 U RA G0
  have c7 := R1.out.cell 0 7 (cs := accA user salt rounds epoch pub nonce wrapped old) (v := .string old) rfl
  obtain ⟨d0, d1, d2, d3⟩ := fre_cells R1.out 1 rfl
  go_wp2_with fail
  refine (FF.out _).mono ?_
  rintro e w2 ⟨rfl, hb⟩
  have R2 := Lib.hid (R1.out.on hb)
  clear hb R1 FF c7 d0 d1 d2 d3
  obtain ⟨d0, d1, d2, d3⟩ := fre_cells R2.out 1 rfl
  go_wp2_with fail
  refine (PB.out _).mono ?_
  rintro e w3 ⟨rfl, hb⟩
  have R3 := Lib.hid (R2.out.on hb)
  clear hb R2 PB d0 d1 d2 d3
  have c0 := R3.out.cell 0 0 (cs := accA user salt rounds epoch pub nonce wrapped old) (v := .string user) rfl
  have c3 := R3.out.cell 0 3 (cs := accA user salt rounds epoch pub nonce wrapped old) (v := .int .i64 epoch) rfl
  have R4 := Lib.hid (show Rw w _ (w3.alloc (.cells #[.string ⟨#[]⟩, .string ⟨#[]⟩, .int .i64 0, .int .i64 0, .string ⟨#[]⟩, .string ⟨#[]⟩, .string ⟨#[]⟩, .string ⟨#[]⟩] 23 (0, 0))) from R3.out.alloc (accA ⟨#[]⟩ ⟨#[]⟩ 0 0 ⟨#[]⟩ ⟨#[]⟩ ⟨#[]⟩ ⟨#[]⟩) 23)
  have RB := Lib.hid (R4.out.row 4)
  have R5 := Lib.hid (R4.out.store 4 (accA user ⟨#[]⟩ 0 (1 - epoch) x ⟨#[]⟩ ⟨#[]⟩ ⟨#[]⟩))
  have IN := Lib.hid (infoAcc user ⟨#[]⟩ 0 (1 - epoch) x ⟨#[]⟩ ⟨#[]⟩ ⟨#[]⟩)
  generalize hgn : w3.heap.size = gn at *
  go_upto_region 12 with (with_reducible refine wpList_store_row rfl 23 (.tmp 12) (.tmp 46) rfl gn (accA user ⟨#[]⟩ 0 (1 - epoch) x ⟨#[]⟩ ⟨#[]⟩ ⟨#[]⟩) rfl rfl 23 (accA ⟨#[]⟩ ⟨#[]⟩ 0 0 ⟨#[]⟩ ⟨#[]⟩ ⟨#[]⟩ ⟨#[]⟩) RB.out IN.out rfl (one_accA _ _ _ _ _ _ _ _) ?_)
  clear c0 c3 R3 R4 RB hgn
  generalize World.setRow _ _ _ = w5 at R5 ⊢
  have R6 := Lib.hid R5.out.drew
  refine wp_region_held (S := fun w' => w'.heap[gn]? = some (.cells (accA user ⟨#[]⟩ 0 (1 - epoch) x ⟨#[]⟩ ⟨#[]⟩ ⟨#[]⟩) 23 (0, 0)) ∧ w'.heap[gb]? = some (.cells (freA fs fn fp fr) 25 (0, 0)) ∧ w'.heap[gk]? = some (.cells #[.string k] 9 (0, 0))) (by kernel_rfl) ?_
  change wpAnyH _ _ _ _ _ _ _ _ (World.drew _)
  generalize w5.drew = w6 at R6 ⊢
  clear R5
  have hS := And.intro (R6.out.row 4) (And.intro (R6.out.row 1) (R6.out.row 3))
  have IF := Lib.hid (infoFre fs fn fp fr)
  have CF := Lib.hid (fun (w9 : World) (h9 : w9.heap[gb]? = some (.cells (freA fs fn fp fr) 25 (0, 0))) => cell_of_row w9 gb 2 _ _ _ h9)
  have CK := Lib.hid (fun (w9 : World) (h9 : w9.heap[gk]? = some (.cells #[.string k] 9 (0, 0))) => cell_of_row w9 gk 0 _ _ _ h9)
  refine wpAnyH_take_at (i := 0) (d := 47) (v := .agg (accA user ⟨#[]⟩ 0 (1 - epoch) x ⟨#[]⟩ ⟨#[]⟩ ⟨#[]⟩)) rfl (by kernel_rfl) (by kernel_rfl) (by kernel_rfl) (fun _ _ _ h => h) rfl (Or.inl ⟨by rfl, fun w9 h9 => run_load_row 23 (.tmp 12) rfl gn rfl 23 _ (0, 0) _ h9.1 Tryz.underlying23 rfl IN.out⟩) hS ?_
  simp only [Act.put, List.setIfInBounds_toArray, List.set_cons_zero, List.set_cons_succ]
  refine wpAnyH_take_at (i := 1) (d := 48) (v := .string pw) rfl (by kernel_rfl) (by kernel_rfl) (by kernel_rfl) (fun _ _ _ h => h) rfl (Or.inl ⟨by rfl, by intro w9 _; go_simp⟩) hS ?_
  simp only [Act.put, List.setIfInBounds_toArray, List.set_cons_zero, List.set_cons_succ]
  refine wpAnyH_take_at (i := 2) (d := 49) (v := .agg (freA fs fn fp fr)) rfl (by kernel_rfl) (by kernel_rfl) (by kernel_rfl) (fun _ _ _ h => h) rfl (Or.inl ⟨by rfl, fun w9 h9 => run_load_row 25 (.tmp 5) rfl gb rfl 25 _ (0, 0) _ h9.2.1 Tryz.underlying25 rfl IF.out⟩) hS ?_
  simp only [Act.put, List.setIfInBounds_toArray, List.set_cons_zero, List.set_cons_succ]
  refine wpAnyH_take_at (i := 3) (d := 50) (v := .pointer (some ⟨gb, 2, none⟩)) rfl (by kernel_rfl) (by kernel_rfl) (by kernel_rfl) (fun _ _ _ h => h) rfl (Or.inl ⟨by rfl, by intro w9 _; go_simp⟩) hS ?_
  simp only [Act.put, List.setIfInBounds_toArray, List.set_cons_zero, List.set_cons_succ]
  refine wpAnyH_take_at (i := 4) (d := 51) (v := .string fp) rfl (by kernel_rfl) (by kernel_rfl) (by kernel_rfl) (fun _ _ _ h => h) rfl (Or.inl ⟨by rfl, by intro w9 h9; have h8 := CF.out w9 h9.2.1; rw [show (freA fs fn fp fr)[2]? = some (.string fp) from rfl] at h8; go_simp⟩) hS ?_
  simp only [Act.put, List.setIfInBounds_toArray, List.set_cons_zero, List.set_cons_succ]
  refine wpAnyH_take_at (i := 5) (d := 52) (v := .slice (some ⟨gk, 0, none⟩) 1 1) rfl (by kernel_rfl) (by kernel_rfl) (by kernel_rfl) (fun _ _ _ h => h) rfl (Or.inl ⟨by rfl, by intro w9 _; go_simp⟩) hS ?_
  simp only [Act.put, List.setIfInBounds_toArray, List.set_cons_zero, List.set_cons_succ]
  refine wpAnyH_take_at (i := 6) (d := 53) (v := .pointer (some ⟨gk, 0, none⟩)) rfl (by kernel_rfl) (by kernel_rfl) (by kernel_rfl) (fun _ _ _ h => h) rfl (Or.inl ⟨by rfl, by intro w9 _; go_simp⟩) hS ?_
  simp only [Act.put, List.setIfInBounds_toArray, List.set_cons_zero, List.set_cons_succ]
  refine wpAnyH_take_at (i := 7) (d := 54) (v := .string k) rfl (by kernel_rfl) (by kernel_rfl) (by kernel_rfl) (fun _ _ _ h => h) rfl (Or.inl ⟨by rfl, by intro w9 h9; have h8 := CK.out w9 h9.2.2; rw [show (#[Value.string k] : Array Value)[0]? = some (.string k) from rfl] at h8; go_simp⟩) hS ?_
  simp only [Act.put, List.setIfInBounds_toArray, List.set_cons_zero, List.set_cons_succ]
  have R7 := Lib.hid (R6.out.on (below_alloc (Below.refl _ _) (.cells #[.string fp, .string k] 9 (0, 0))))
  have HN := Lib.hid (MapKept.heap_alloc w6 (.cells #[.string fp, .string k] 9 (0, 0))).1
  refine wpAnyH_all (rs := [8]) (by kernel_rfl) (by simp) (List.forall_mem_singleton.2 ?_)
  refine wpOp_mk (d := 55) (v := .slice (some ⟨w6.heap.size, 0, none⟩) 2 2) (w2 := w6.alloc (.cells #[.string fp, .string k] 9 (0, 0))) rfl (by rfl) rfl (by go_simp) ⟨And.intro (R7.out.row 4) (And.intro (R7.out.row 1) (R7.out.row 3)), ?_⟩
  simp only [Act.put, List.setIfInBounds_toArray, List.set_cons_zero, List.set_cons_succ]
  generalize w6.heap.size = gm at *
  generalize w6.alloc (.cells #[.string fp, .string k] 9 (0, 0)) = w7 at *
  have G7 := Lib.hid (HG.out.on R7.out.bel)
  refine wpAnyH_all (rs := [9]) (by kernel_rfl) (by simp) (List.forall_mem_singleton.2 ?_)
  refine wpOp_call (d := 56) (f := 28) (args := #[.agg (accA user ⟨#[]⟩ 0 (1 - epoch) x ⟨#[]⟩ ⟨#[]⟩ ⟨#[]⟩), .string pw, .agg (freA fs fn fp fr), .slice (some ⟨gm, 0, none⟩) 2 2]) rfl (by rfl) rfl (by go_simp) ?_
  refine (WR.out _ _ G7.out HN.out).mono ?_
  rintro e w8 ⟨rfl, hb⟩
  have R8 := Lib.hid (R7.out.on hb)
  have R9 := Lib.hid (R8.out.store 2 (accA z0 z1 z2 z3 z4 z5 z6 z7))
  have hS8 := And.intro (R8.out.row 4) (And.intro (R8.out.row 1) (R8.out.row 3))
  have hS9 := And.intro (R9.out.row 4) (And.intro (R9.out.row 1) (R9.out.row 3))
  refine ⟨_, rfl, hS8, ?_⟩
  simp only [Act.put, List.setIfInBounds_toArray, List.set_cons_zero, List.set_cons_succ]
  refine wpAnyH_take_at (i := 10) (d := 57) (v := .agg (accA z0 z1 z2 z3 z4 z5 z6 z7)) rfl (by kernel_rfl) (by kernel_rfl) (by kernel_rfl) (fun _ _ _ h => h) rfl (Or.inl ⟨by rfl, by intro w9 _; go_simp; rfl⟩) hS8 ?_
  simp only [Act.put, List.setIfInBounds_toArray, List.set_cons_zero, List.set_cons_succ]
  refine wpAnyH_take_at (i := 11) (d := 58) (v := .int .i64 0) rfl (by kernel_rfl) (by kernel_rfl) (by kernel_rfl) (fun _ _ _ h => h) rfl (Or.inl ⟨by rfl, by intro w9 _; go_simp⟩) hS8 ?_
  simp only [Act.put, List.setIfInBounds_toArray, List.set_cons_zero, List.set_cons_succ]
  refine wpAnyH_all (rs := [12]) (by kernel_rfl) (by simp) (List.forall_mem_singleton.2 ?_)
  refine wpOp_store rfl rfl rfl 23 (.tmp 6) (.tmp 57) rfl (gb + 1) (accA z0 z1 z2 z3 z4 z5 z6 z7) rfl rfl 23 (accA ⟨#[]⟩ ⟨#[]⟩ 0 0 ⟨#[]⟩ ⟨#[]⟩ ⟨#[]⟩ ⟨#[]⟩) (R8.out.row 2) IA.out rfl (one_accA _ _ _ _ _ _ _ _) ⟨hS9, ?_⟩
  refine wpAnyH_all (rs := [13]) (by kernel_rfl) (by simp) (List.forall_mem_singleton.2 ?_)
  refine wpOp_assign (d := 7) (s := 58) (v := .int .i64 0) rfl rfl rfl rfl rfl ⟨hS9, ?_⟩
  simp only [Act.put, List.setIfInBounds_toArray, List.set_cons_zero, List.set_cons_succ]
  refine wpAnyH_done (by kernel_rfl) ?_ _
  go_wp2_with fail
  exact bodyPost_ret (results_row_slot rfl _ _ (gb + 1) 23 (accA z0 z1 z2 z3 z4 z5 z6 z7) (0, 0) _ (.int .i64 0) rfl rfl (R9.out.row 2) Tryz.underlying23 rfl IA.out) rfl ⟨rfl, R9.out.bel⟩
theorem rotate_any (a : Acc) (pw : ByteArray) (f : Fre) (w : World) (hp0 : pw.size ≤ 1000) (G : Glob w) :
    Calls Tryz.prog 10 #[a.v, .string pw, f.v] w fun e w' => e = .returned (.tuple #[(rotB a pw f).1.v, .int .i64 (rotB a pw f).2]) ∧ Below w.heap.size w w' := by
  unfold rotB
  cases hu : unlB a pw with
  | err n => exact rotate_err a pw f w G hp0 n hu (unl_err hu)
  | one k =>
    cases hf : f.ok with
    | false => simp only; rw [if_neg (by simp)]; exact rotate_no a pw f w G hp0 k hu hf
    | true => simp only; rw [if_pos (by simp)]; exact rotate_yes a pw f w G hp0 k hu hf
  | two k o => exact rotate_two a pw f w G hp0 k o hu
end Go.Proofs.YtfckjilhkdlpfaaGreatDoor
