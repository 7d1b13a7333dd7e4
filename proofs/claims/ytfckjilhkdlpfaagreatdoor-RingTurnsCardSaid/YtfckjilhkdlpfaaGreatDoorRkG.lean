/-
  ring.Change: the walks.
-/
import Derived.Test.YtfckjilhkdlpfaaGreatDoorRkF
import Derived.Test.YtfckjilhkdlpfaaGreatDoorRkC
namespace Go.Proofs.YtfckjilhkdlpfaaGreatDoor
open Go.RowKit MS

theorem unl_err {a : Acc} {pw : ByteArray} {n : Int} (h : unlB a pw = .err n) : n ≠ 0 := by
  unfold unlB at h
  split at h
  · split at h
    · cases h; decide
    · split at h
      · split at h
        · cases h
        · split at h
          · cases h; decide
          · cases h
      · cases h; decide
  · cases h; decide

set_option maxRecDepth 1000000 in
set_option maxHeartbeats 4000000 in
theorem change_err (a : Acc) (old0 pw : ByteArray) (f : Fre) (w : World) (G : Glob w) (hp0 : old0.size ≤ 1000) (n : Int) (hu : unlB a old0 = .err n) (hn : n ≠ 0) :
    Calls Tryz.prog 9 #[a.v, .string old0, .string pw, f.v] w fun e w' => e = .returned (.tuple #[noAcc.v, .int .i64 n]) ∧ Below w.heap.size w w' := by
  have U := Lib.hid (fun w G => unlock_any a old0 w hp0 G)
  rw [hu] at U
  obtain ⟨user, salt, rounds, epoch, pub, nonce, wrapped, old⟩ := a
  obtain ⟨fs, fn, fp, fr⟩ := f
  unfold Fre.v Acc.v at *
  simp only at *
  have R0 := Lib.hid (rwAF w user salt rounds epoch pub nonce wrapped old fs fn fp fr 23 25 23)
  have IX := Lib.hid (infoAcc user salt rounds epoch pub nonce wrapped old)
  have HG := Lib.hid G
  have IA := Lib.hid (infoAcc ⟨#[]⟩ ⟨#[]⟩ 0 0 ⟨#[]⟩ ⟨#[]⟩ ⟨#[]⟩ ⟨#[]⟩)
  have n1 : (n != 0) = true := by simpa using hn
  clear hu hp0 G
  go_enter Tryz.func9, Tryz.ntmps9
  go_upto_region 1 with fail
  generalize ((w.alloc (.cells #[.string user, .string salt, .int .i64 rounds, .int .i64 epoch, .string pub, .string nonce, .string wrapped, .string old] 23 (0, 0))).alloc (.cells #[.string fs, .string fn, .string fp, .int .i64 fr] 25 (0, 0))).alloc _ = W at R0 ⊢
  generalize w.heap.size = ga at *
  generalize hgb : ga + 1 = gb at *
  have RA := Lib.hid (R0.out.row 0)
  have G0 := Lib.hid (HG.out.on R0.out.bel)
  go_wp2_with (with_reducible refine wpList_load_row rfl 23 (.tmp 4) rfl ga rfl 23 (accA user salt rounds epoch pub nonce wrapped old) (0, 0) _ RA.out Tryz.underlying23 rfl IX.out ?_)
  refine (U.out _ G0.out).mono ?_
  rintro e w1 ⟨h, hb⟩
  obtain rfl := h
  have R1 := Lib.hid (R0.out.on hb)
  have R2 := Lib.hid (R1.out.store 2 (accA ⟨#[]⟩ ⟨#[]⟩ 0 0 ⟨#[]⟩ ⟨#[]⟩ ⟨#[]⟩ ⟨#[]⟩))
  have RB := Lib.hid (R1.out.row 2)
  clear hb R0 U RA
  go_wp2_with (with_reducible refine wpList_store_row rfl 23 (.tmp 8) (.tmp 20) rfl (gb + 1) (accA ⟨#[]⟩ ⟨#[]⟩ 0 0 ⟨#[]⟩ ⟨#[]⟩ ⟨#[]⟩ ⟨#[]⟩) rfl rfl 23 (accA ⟨#[]⟩ ⟨#[]⟩ 0 0 ⟨#[]⟩ ⟨#[]⟩ ⟨#[]⟩ ⟨#[]⟩) RB.out IA.out rfl (one_accA _ _ _ _ _ _ _ _) ?_)
  exact bodyPost_ret (results_row_slot rfl _ _ (gb + 1) 23 (accA ⟨#[]⟩ ⟨#[]⟩ 0 0 ⟨#[]⟩ ⟨#[]⟩ ⟨#[]⟩ ⟨#[]⟩) (0, 0) _ (.int .i64 n) rfl rfl (R2.out.row 2) Tryz.underlying23 rfl IA.out) rfl ⟨rfl, R2.out.bel⟩
set_option maxRecDepth 1000000 in
set_option maxHeartbeats 4000000 in
theorem change_no_one (a : Acc) (old0 pw : ByteArray) (f : Fre) (w : World) (G : Glob w) (hp0 : old0.size ≤ 1000) (k : ByteArray) (hu : unlB a old0 = .one k) (hf : f.rw = false) :
    Calls Tryz.prog 9 #[a.v, .string old0, .string pw, f.v] w fun e w' => e = .returned (.tuple #[noAcc.v, .int .i64 1]) ∧ Below w.heap.size w w' := by
  have U := Lib.hid (fun w G => unlock_any a old0 w hp0 G)
  rw [hu] at U
  have FR := Lib.hid (fun w => rightWrap_any f.salt f.nonce f.priv f.rounds w)
  rw [show rwB f.salt f.nonce f.rounds = false from hf] at FR
  obtain ⟨user, salt, rounds, epoch, pub, nonce, wrapped, old⟩ := a
  obtain ⟨fs, fn, fp, fr⟩ := f
  unfold Fre.v Acc.v at *
  simp only at *
  have R0 := Lib.hid (rwAF w user salt rounds epoch pub nonce wrapped old fs fn fp fr 23 25 23)
  have IX := Lib.hid (infoAcc user salt rounds epoch pub nonce wrapped old)
  have HG := Lib.hid G
  have IA := Lib.hid (infoAcc ⟨#[]⟩ ⟨#[]⟩ 0 0 ⟨#[]⟩ ⟨#[]⟩ ⟨#[]⟩ ⟨#[]⟩)
  clear hu hp0 G hf
  go_enter Tryz.func9, Tryz.ntmps9
  go_upto_region 1 with fail
  generalize ((w.alloc (.cells #[.string user, .string salt, .int .i64 rounds, .int .i64 epoch, .string pub, .string nonce, .string wrapped, .string old] 23 (0, 0))).alloc (.cells #[.string fs, .string fn, .string fp, .int .i64 fr] 25 (0, 0))).alloc _ = W at R0 ⊢
  generalize w.heap.size = ga at *
  generalize hgb : ga + 1 = gb at *
  have RA := Lib.hid (R0.out.row 0)
  have G0 := Lib.hid (HG.out.on R0.out.bel)
  go_wp2_with (with_reducible refine wpList_load_row rfl 23 (.tmp 4) rfl ga rfl 23 (accA user salt rounds epoch pub nonce wrapped old) (0, 0) _ RA.out Tryz.underlying23 rfl IX.out ?_)
  refine (U.out _ G0.out).mono ?_
  rintro e w1 ⟨⟨gk, hge, rfl, hrow⟩, hb⟩
  have R1 := Lib.hid (R0.out.join hb hge hrow)
  clear hrow hge hb R0 U RA G0
  obtain ⟨c0, c1, c2, c3⟩ := fre_cells R1.out 1 rfl
  go_wp2_with fail
  refine (FR.out _).mono ?_
  rintro e w2 ⟨rfl, hb⟩
  have R2 := Lib.hid (R1.out.on hb)
  have R3 := Lib.hid (R2.out.store 2 (accA ⟨#[]⟩ ⟨#[]⟩ 0 0 ⟨#[]⟩ ⟨#[]⟩ ⟨#[]⟩ ⟨#[]⟩))
  have RB := Lib.hid (R2.out.row 2)
  clear hb R1 FR c0 c1 c2 c3
  go_wp2_with (with_reducible refine wpList_store_row rfl 23 (.tmp 8) (.tmp 25) rfl (gb + 1) (accA ⟨#[]⟩ ⟨#[]⟩ 0 0 ⟨#[]⟩ ⟨#[]⟩ ⟨#[]⟩ ⟨#[]⟩) rfl rfl 23 (accA ⟨#[]⟩ ⟨#[]⟩ 0 0 ⟨#[]⟩ ⟨#[]⟩ ⟨#[]⟩ ⟨#[]⟩) RB.out IA.out rfl (one_accA _ _ _ _ _ _ _ _) ?_)
  exact bodyPost_ret (results_row_slot rfl _ _ (gb + 1) 23 (accA ⟨#[]⟩ ⟨#[]⟩ 0 0 ⟨#[]⟩ ⟨#[]⟩ ⟨#[]⟩ ⟨#[]⟩) (0, 0) _ (.int .i64 1) rfl rfl (R3.out.row 2) Tryz.underlying23 rfl IA.out) rfl ⟨rfl, R3.out.bel⟩
set_option maxRecDepth 1000000 in
set_option maxHeartbeats 4000000 in
theorem change_no_two (a : Acc) (old0 pw : ByteArray) (f : Fre) (w : World) (G : Glob w) (hp0 : old0.size ≤ 1000) (k o : ByteArray) (hu : unlB a old0 = .two k o) (hf : f.rw = false) :
    Calls Tryz.prog 9 #[a.v, .string old0, .string pw, f.v] w fun e w' => e = .returned (.tuple #[noAcc.v, .int .i64 1]) ∧ Below w.heap.size w w' := by
  have U := Lib.hid (fun w G => unlock_any a old0 w hp0 G)
  rw [hu] at U
  have FR := Lib.hid (fun w => rightWrap_any f.salt f.nonce f.priv f.rounds w)
  rw [show rwB f.salt f.nonce f.rounds = false from hf] at FR
  obtain ⟨user, salt, rounds, epoch, pub, nonce, wrapped, old⟩ := a
  obtain ⟨fs, fn, fp, fr⟩ := f
  unfold Fre.v Acc.v at *
  simp only at *
  have R0 := Lib.hid (rwAF w user salt rounds epoch pub nonce wrapped old fs fn fp fr 23 25 23)
  have IX := Lib.hid (infoAcc user salt rounds epoch pub nonce wrapped old)
  have HG := Lib.hid G
  have IA := Lib.hid (infoAcc ⟨#[]⟩ ⟨#[]⟩ 0 0 ⟨#[]⟩ ⟨#[]⟩ ⟨#[]⟩ ⟨#[]⟩)
  clear hu hp0 G hf
  go_enter Tryz.func9, Tryz.ntmps9
  go_upto_region 1 with fail
  generalize ((w.alloc (.cells #[.string user, .string salt, .int .i64 rounds, .int .i64 epoch, .string pub, .string nonce, .string wrapped, .string old] 23 (0, 0))).alloc (.cells #[.string fs, .string fn, .string fp, .int .i64 fr] 25 (0, 0))).alloc _ = W at R0 ⊢
  generalize w.heap.size = ga at *
  generalize hgb : ga + 1 = gb at *
  have RA := Lib.hid (R0.out.row 0)
  have G0 := Lib.hid (HG.out.on R0.out.bel)
  go_wp2_with (with_reducible refine wpList_load_row rfl 23 (.tmp 4) rfl ga rfl 23 (accA user salt rounds epoch pub nonce wrapped old) (0, 0) _ RA.out Tryz.underlying23 rfl IX.out ?_)
  refine (U.out _ G0.out).mono ?_
  rintro e w1 ⟨⟨gk, hge, rfl, hrow⟩, hb⟩
  have R1 := Lib.hid (R0.out.join hb hge hrow)
  clear hrow hge hb R0 U RA G0
  obtain ⟨c0, c1, c2, c3⟩ := fre_cells R1.out 1 rfl
  go_wp2_with fail
  refine (FR.out _).mono ?_
  rintro e w2 ⟨rfl, hb⟩
  have R2 := Lib.hid (R1.out.on hb)
  have R3 := Lib.hid (R2.out.store 2 (accA ⟨#[]⟩ ⟨#[]⟩ 0 0 ⟨#[]⟩ ⟨#[]⟩ ⟨#[]⟩ ⟨#[]⟩))
  have RB := Lib.hid (R2.out.row 2)
  clear hb R1 FR c0 c1 c2 c3
  go_wp2_with (with_reducible refine wpList_store_row rfl 23 (.tmp 8) (.tmp 25) rfl (gb + 1) (accA ⟨#[]⟩ ⟨#[]⟩ 0 0 ⟨#[]⟩ ⟨#[]⟩ ⟨#[]⟩ ⟨#[]⟩) rfl rfl 23 (accA ⟨#[]⟩ ⟨#[]⟩ 0 0 ⟨#[]⟩ ⟨#[]⟩ ⟨#[]⟩ ⟨#[]⟩) RB.out IA.out rfl (one_accA _ _ _ _ _ _ _ _) ?_)
  exact bodyPost_ret (results_row_slot rfl _ _ (gb + 1) 23 (accA ⟨#[]⟩ ⟨#[]⟩ 0 0 ⟨#[]⟩ ⟨#[]⟩ ⟨#[]⟩ ⟨#[]⟩) (0, 0) _ (.int .i64 1) rfl rfl (R3.out.row 2) Tryz.underlying23 rfl IA.out) rfl ⟨rfl, R3.out.bel⟩
set_option maxRecDepth 1000000 in
set_option maxHeartbeats 4000000 in
theorem change_one (a : Acc) (old0 pw : ByteArray) (f : Fre) (w : World) (G : Glob w) (hp0 : old0.size ≤ 1000) (hp : pw.size ≤ 1000) (k : ByteArray) (hu : unlB a old0 = .one k) (hf : f.rw = true) :
    Calls Tryz.prog 9 #[a.v, .string old0, .string pw, f.v] w fun e w' => e = .returned (.tuple #[(wrapB a pw f k).v, .int .i64 0]) ∧ Below w.heap.size w w' := by
  have U := Lib.hid (fun w G => unlock_any a old0 w hp0 G)
  rw [hu] at U
  have FR := Lib.hid (fun w => rightWrap_any f.salt f.nonce f.priv f.rounds w)
  rw [show rwB f.salt f.nonce f.rounds = true from hf] at FR
  have WR := Lib.hid (fun gk w G hg => wrap1_any a pw f k gk w G (wr_one hu hf) hp hg)
  generalize wrapB a pw f k = Q at *
  obtain ⟨z0, z1, z2, z3, z4, z5, z6, z7⟩ := Q
  obtain ⟨user, salt, rounds, epoch, pub, nonce, wrapped, old⟩ := a
  obtain ⟨fs, fn, fp, fr⟩ := f
  unfold Fre.v Acc.v at *
  simp only at *
  have R0 := Lib.hid (rwAF w user salt rounds epoch pub nonce wrapped old fs fn fp fr 23 25 23)
  have IX := Lib.hid (infoAcc user salt rounds epoch pub nonce wrapped old)
  have HG := Lib.hid G
  have IA := Lib.hid (infoAcc z0 z1 z2 z3 z4 z5 z6 z7)
  clear hu hp0 hp G hf
  go_enter Tryz.func9, Tryz.ntmps9
  go_upto_region 1 with fail
  generalize ((w.alloc (.cells #[.string user, .string salt, .int .i64 rounds, .int .i64 epoch, .string pub, .string nonce, .string wrapped, .string old] 23 (0, 0))).alloc (.cells #[.string fs, .string fn, .string fp, .int .i64 fr] 25 (0, 0))).alloc _ = W at R0 ⊢
  generalize w.heap.size = ga at *
  generalize hgb : ga + 1 = gb at *
  have RA := Lib.hid (R0.out.row 0)
  have G0 := Lib.hid (HG.out.on R0.out.bel)
  go_wp2_with (with_reducible refine wpList_load_row rfl 23 (.tmp 4) rfl ga rfl 23 (accA user salt rounds epoch pub nonce wrapped old) (0, 0) _ RA.out Tryz.underlying23 rfl IX.out ?_)
  refine (U.out _ G0.out).mono ?_
  rintro e w1 ⟨⟨gk, hge, rfl, hrow⟩, hb⟩
  have R1 := Lib.hid (R0.out.join hb hge hrow)
  clear hrow hge hb R0 U RA G0
  obtain ⟨c0, c1, c2, c3⟩ := fre_cells R1.out 1 rfl
  go_wp2_with fail
  refine (FR.out _).mono ?_
  rintro e w2 ⟨rfl, hb⟩
  have R2 := Lib.hid (R1.out.on hb)
  clear hb R1 FR c0 c1 c2 c3
  obtain ⟨c0, c1, c2, c3⟩ := fre_cells R2.out 1 rfl
  have RA := Lib.hid (R2.out.row 0)
  have RK := Lib.hid (R2.out.row 3)
  have G2 := Lib.hid (HG.out.on R2.out.bel)
  go_wp2_with (with_reducible refine wpList_load_row rfl 23 (.tmp 4) rfl ga rfl 23 (accA user salt rounds epoch pub nonce wrapped old) (0, 0) _ RA.out Tryz.underlying23 rfl IX.out ?_)
  refine (WR.out _ _ G2.out RK.out).mono ?_
  rintro e w3 ⟨rfl, hb⟩
  have R3 := Lib.hid (R2.out.on hb)
  have R4 := Lib.hid (R3.out.store 2 (accA z0 z1 z2 z3 z4 z5 z6 z7))
  have RB := Lib.hid (R3.out.row 2)
  clear hb R2 WR c0 c1 c2 c3 RA RK
  go_wp2_with (with_reducible refine wpList_store_row rfl 23 (.tmp 8) (.tmp 31) rfl (gb + 1) (accA z0 z1 z2 z3 z4 z5 z6 z7) rfl rfl 23 (accA ⟨#[]⟩ ⟨#[]⟩ 0 0 ⟨#[]⟩ ⟨#[]⟩ ⟨#[]⟩ ⟨#[]⟩) RB.out IA.out rfl (one_accA _ _ _ _ _ _ _ _) ?_)
  exact bodyPost_ret (results_row_slot rfl _ _ (gb + 1) 23 (accA z0 z1 z2 z3 z4 z5 z6 z7) (0, 0) _ (.int .i64 0) rfl rfl (R4.out.row 2) Tryz.underlying23 rfl IA.out) rfl ⟨rfl, R4.out.bel⟩
set_option maxRecDepth 1000000 in
set_option maxHeartbeats 4000000 in
theorem change_two (a : Acc) (old0 pw : ByteArray) (f : Fre) (w : World) (G : Glob w) (hp0 : old0.size ≤ 1000) (hp : pw.size ≤ 1000) (k o : ByteArray) (hu : unlB a old0 = .two k o) (hf : f.rw = true) :
    Calls Tryz.prog 9 #[a.v, .string old0, .string pw, f.v] w fun e w' => e = .returned (.tuple #[(wrapB2 a pw f k o).v, .int .i64 0]) ∧ Below w.heap.size w w' := by
  have U := Lib.hid (fun w G => unlock_any a old0 w hp0 G)
  rw [hu] at U
  have FR := Lib.hid (fun w => rightWrap_any f.salt f.nonce f.priv f.rounds w)
  rw [show rwB f.salt f.nonce f.rounds = true from hf] at FR
  have WR := Lib.hid (fun gk w G hg => wrap2_any a pw f k o gk w G (wr_two hu hf) (unl_two hu).2.2.2.1 hp hg)
  generalize wrapB2 a pw f k o = Q at *
  obtain ⟨z0, z1, z2, z3, z4, z5, z6, z7⟩ := Q
  obtain ⟨user, salt, rounds, epoch, pub, nonce, wrapped, old⟩ := a
  obtain ⟨fs, fn, fp, fr⟩ := f
  unfold Fre.v Acc.v at *
  simp only at *
  have R0 := Lib.hid (rwAF w user salt rounds epoch pub nonce wrapped old fs fn fp fr 23 25 23)
  have IX := Lib.hid (infoAcc user salt rounds epoch pub nonce wrapped old)
  have HG := Lib.hid G
  have IA := Lib.hid (infoAcc z0 z1 z2 z3 z4 z5 z6 z7)
  clear hu hp0 hp G hf
  go_enter Tryz.func9, Tryz.ntmps9
  go_upto_region 1 with fail
  generalize ((w.alloc (.cells #[.string user, .string salt, .int .i64 rounds, .int .i64 epoch, .string pub, .string nonce, .string wrapped, .string old] 23 (0, 0))).alloc (.cells #[.string fs, .string fn, .string fp, .int .i64 fr] 25 (0, 0))).alloc _ = W at R0 ⊢
  generalize w.heap.size = ga at *
  generalize hgb : ga + 1 = gb at *
  have RA := Lib.hid (R0.out.row 0)
  have G0 := Lib.hid (HG.out.on R0.out.bel)
  go_wp2_with (with_reducible refine wpList_load_row rfl 23 (.tmp 4) rfl ga rfl 23 (accA user salt rounds epoch pub nonce wrapped old) (0, 0) _ RA.out Tryz.underlying23 rfl IX.out ?_)
  refine (U.out _ G0.out).mono ?_
  rintro e w1 ⟨⟨gk, hge, rfl, hrow⟩, hb⟩
  have R1 := Lib.hid (R0.out.join hb hge hrow)
  clear hrow hge hb R0 U RA G0
  obtain ⟨c0, c1, c2, c3⟩ := fre_cells R1.out 1 rfl
  go_wp2_with fail
  refine (FR.out _).mono ?_
  rintro e w2 ⟨rfl, hb⟩
  have R2 := Lib.hid (R1.out.on hb)
  clear hb R1 FR c0 c1 c2 c3
  obtain ⟨c0, c1, c2, c3⟩ := fre_cells R2.out 1 rfl
  have RA := Lib.hid (R2.out.row 0)
  have RK := Lib.hid (R2.out.row 3)
  have G2 := Lib.hid (HG.out.on R2.out.bel)
  go_wp2_with (with_reducible refine wpList_load_row rfl 23 (.tmp 4) rfl ga rfl 23 (accA user salt rounds epoch pub nonce wrapped old) (0, 0) _ RA.out Tryz.underlying23 rfl IX.out ?_)
  refine (WR.out _ _ G2.out RK.out).mono ?_
  rintro e w3 ⟨rfl, hb⟩
  have R3 := Lib.hid (R2.out.on hb)
  have R4 := Lib.hid (R3.out.store 2 (accA z0 z1 z2 z3 z4 z5 z6 z7))
  have RB := Lib.hid (R3.out.row 2)
  clear hb R2 WR c0 c1 c2 c3 RA RK
  go_wp2_with (with_reducible refine wpList_store_row rfl 23 (.tmp 8) (.tmp 31) rfl (gb + 1) (accA z0 z1 z2 z3 z4 z5 z6 z7) rfl rfl 23 (accA ⟨#[]⟩ ⟨#[]⟩ 0 0 ⟨#[]⟩ ⟨#[]⟩ ⟨#[]⟩ ⟨#[]⟩) RB.out IA.out rfl (one_accA _ _ _ _ _ _ _ _) ?_)
  exact bodyPost_ret (results_row_slot rfl _ _ (gb + 1) 23 (accA z0 z1 z2 z3 z4 z5 z6 z7) (0, 0) _ (.int .i64 0) rfl rfl (R4.out.row 2) Tryz.underlying23 rfl IA.out) rfl ⟨rfl, R4.out.bel⟩
theorem change_any (a : Acc) (old0 pw : ByteArray) (f : Fre) (w : World) (hp0 : old0.size ≤ 1000) (hp : pw.size ≤ 1000) (G : Glob w) :
    Calls Tryz.prog 9 #[a.v, .string old0, .string pw, f.v] w fun e w' => e = .returned (.tuple #[(chgB a old0 pw f).1.v, .int .i64 (chgB a old0 pw f).2]) ∧ Below w.heap.size w w' := by
  unfold chgB
  cases hu : unlB a old0 with
  | err n => exact change_err a old0 pw f w G hp0 n hu (unl_err hu)
  | one k =>
    cases hf : f.rw with
    | false => simp only; rw [if_neg (by simp)]; exact change_no_one a old0 pw f w G hp0 k hu hf
    | true => simp only; rw [if_pos (by simp)]; exact change_one a old0 pw f w G hp0 hp k hu hf
  | two k o =>
    cases hf : f.rw with
    | false => simp only; rw [if_neg (by simp)]; exact change_no_two a old0 pw f w G hp0 k o hu hf
    | true => simp only; rw [if_pos (by simp)]; exact change_two a old0 pw f w G hp0 hp k o hu hf
end Go.Proofs.YtfckjilhkdlpfaaGreatDoor
