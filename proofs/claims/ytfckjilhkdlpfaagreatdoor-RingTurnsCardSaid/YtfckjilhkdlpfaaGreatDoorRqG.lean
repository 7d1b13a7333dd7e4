/-
  mailsackref13.Rotate: the walks.
-/
import Derived.Test.YtfckjilhkdlpfaaGreatDoorRqF
namespace Go.Proofs.YtfckjilhkdlpfaaGreatDoor
open Go.RowKit MS

set_option maxRecDepth 1000000 in
set_option maxHeartbeats 4000000 in
theorem rrotate_err (a : Acc) (pw : ByteArray) (f : Fre) (w : World) (hus : a.user.size ≤ 1000) (hp0 : pw.size ≤ 1000) (n : Int) (hu : unlB a pw = .err n) (hn : n ≠ 0) :
    Calls Tryz.prog 14 #[a.v, .string pw, f.v] w fun e w' => e = .returned (.tuple #[noAcc.v, .int .i64 n]) ∧ Below w.heap.size w w' := by
  have U := Lib.hid (fun w => runlock_any a pw w hp0 hus)
  rw [hu] at U
  obtain ⟨user, salt, rounds, epoch, pub, nonce, wrapped, old⟩ := a
  obtain ⟨fs, fn, fp, fr⟩ := f
  unfold Fre.v Acc.v at *
  simp only at *
  have R0 := Lib.hid (rwAF w user salt rounds epoch pub nonce wrapped old fs fn fp fr 32 36 32)
  have IX := Lib.hid (infoRA user salt rounds epoch pub nonce wrapped old)
  have IA := Lib.hid (infoRA ⟨#[]⟩ ⟨#[]⟩ 0 0 ⟨#[]⟩ ⟨#[]⟩ ⟨#[]⟩ ⟨#[]⟩)
  have n1 : (n != 0) = true := by simpa using hn
  clear hu hp0 hus
  go_enter Tryz.func14, Tryz.ntmps14
  go_upto_region 1 with fail
  generalize ((w.alloc (.cells #[.string user, .string salt, .int .i64 rounds, .int .i64 epoch, .string pub, .string nonce, .string wrapped, .string old] 32 (0, 0))).alloc (.cells #[.string fs, .string fn, .string fp, .int .i64 fr] 36 (0, 0))).alloc _ = W at R0 ⊢
  generalize w.heap.size = ga at *
  generalize hgb : ga + 1 = gb at *
  have RA := Lib.hid (R0.out.row 0)
  go_wp2_with (with_reducible refine wpList_load_row rfl 32 (.tmp 3) rfl ga rfl 32 (accA user salt rounds epoch pub nonce wrapped old) (0, 0) _ RA.out Tryz.underlying32 rfl IX.out ?_)
  refine (U.out _).mono ?_
  rintro e w1 ⟨h, hb⟩
  obtain rfl := h
  have R1 := Lib.hid (R0.out.on hb)
  have R2 := Lib.hid (R1.out.store 2 (accA ⟨#[]⟩ ⟨#[]⟩ 0 0 ⟨#[]⟩ ⟨#[]⟩ ⟨#[]⟩ ⟨#[]⟩))
  have RB := Lib.hid (R1.out.row 2)
  clear hb R0 U RA
  go_wp2_with (with_reducible refine wpList_store_row rfl 32 (.tmp 6) (.tmp 20) rfl (gb + 1) (accA ⟨#[]⟩ ⟨#[]⟩ 0 0 ⟨#[]⟩ ⟨#[]⟩ ⟨#[]⟩ ⟨#[]⟩) rfl rfl 32 (accA ⟨#[]⟩ ⟨#[]⟩ 0 0 ⟨#[]⟩ ⟨#[]⟩ ⟨#[]⟩ ⟨#[]⟩) RB.out IA.out rfl (one_accA _ _ _ _ _ _ _ _) ?_)
  exact bodyPost_ret (results_row_slot rfl _ _ (gb + 1) 32 (accA ⟨#[]⟩ ⟨#[]⟩ 0 0 ⟨#[]⟩ ⟨#[]⟩ ⟨#[]⟩ ⟨#[]⟩) (0, 0) _ (.int .i64 n) rfl rfl (R2.out.row 2) Tryz.underlying32 rfl IA.out) rfl ⟨rfl, R2.out.bel⟩
set_option maxRecDepth 1000000 in
set_option maxHeartbeats 4000000 in
theorem rrotate_two (a : Acc) (pw : ByteArray) (f : Fre) (w : World) (hus : a.user.size ≤ 1000) (hp0 : pw.size ≤ 1000) (k o : ByteArray) (hu : unlB a pw = .two k o) :
    Calls Tryz.prog 14 #[a.v, .string pw, f.v] w fun e w' => e = .returned (.tuple #[noAcc.v, .int .i64 8]) ∧ Below w.heap.size w w' := by
  have U := Lib.hid (fun w => runlock_any a pw w hp0 hus)
  rw [hu] at U
  have ho := (unl_two hu).2.2.2.2
  obtain ⟨user, salt, rounds, epoch, pub, nonce, wrapped, old⟩ := a
  obtain ⟨fs, fn, fp, fr⟩ := f
  unfold Fre.v Acc.v at *
  simp only at *
  have R0 := Lib.hid (rwAF w user salt rounds epoch pub nonce wrapped old fs fn fp fr 32 36 32)
  have IX := Lib.hid (infoRA user salt rounds epoch pub nonce wrapped old)
  have IA := Lib.hid (infoRA ⟨#[]⟩ ⟨#[]⟩ 0 0 ⟨#[]⟩ ⟨#[]⟩ ⟨#[]⟩ ⟨#[]⟩)
  have oz : (old.size : Int) > 0 := by omega
  clear hu hp0 hus ho
  go_enter Tryz.func14, Tryz.ntmps14
  go_upto_region 1 with fail
  generalize ((w.alloc (.cells #[.string user, .string salt, .int .i64 rounds, .int .i64 epoch, .string pub, .string nonce, .string wrapped, .string old] 32 (0, 0))).alloc (.cells #[.string fs, .string fn, .string fp, .int .i64 fr] 36 (0, 0))).alloc _ = W at R0 ⊢
  generalize w.heap.size = ga at *
  generalize hgb : ga + 1 = gb at *
  have RA := Lib.hid (R0.out.row 0)
  go_wp2_with (with_reducible refine wpList_load_row rfl 32 (.tmp 3) rfl ga rfl 32 (accA user salt rounds epoch pub nonce wrapped old) (0, 0) _ RA.out Tryz.underlying32 rfl IX.out ?_)
  refine (U.out _).mono ?_
  rintro e w1 ⟨⟨gk, hge, rfl, hrow⟩, hb⟩
  have R1 := Lib.hid (R0.out.join hb hge hrow)
  clear hrow hge hb R0 U RA
  have c7 := R1.out.cell 0 7 (cs := accA user salt rounds epoch pub nonce wrapped old) (v := .string old) rfl
  have R3 := Lib.hid (R1.out.store 2 (accA ⟨#[]⟩ ⟨#[]⟩ 0 0 ⟨#[]⟩ ⟨#[]⟩ ⟨#[]⟩ ⟨#[]⟩))
  have RB := Lib.hid (R1.out.row 2)
  clear R1
  go_wp2_with (with_reducible refine wpList_store_row rfl 32 (.tmp 6) (.tmp 26) rfl (gb + 1) (accA ⟨#[]⟩ ⟨#[]⟩ 0 0 ⟨#[]⟩ ⟨#[]⟩ ⟨#[]⟩ ⟨#[]⟩) rfl rfl 32 (accA ⟨#[]⟩ ⟨#[]⟩ 0 0 ⟨#[]⟩ ⟨#[]⟩ ⟨#[]⟩ ⟨#[]⟩) RB.out IA.out rfl (one_accA _ _ _ _ _ _ _ _) ?_)
  exact bodyPost_ret (results_row_slot rfl _ _ (gb + 1) 32 (accA ⟨#[]⟩ ⟨#[]⟩ 0 0 ⟨#[]⟩ ⟨#[]⟩ ⟨#[]⟩ ⟨#[]⟩) (0, 0) _ (.int .i64 8) rfl rfl (R3.out.row 2) Tryz.underlying32 rfl IA.out) rfl ⟨rfl, R3.out.bel⟩
set_option maxRecDepth 1000000 in
set_option maxHeartbeats 4000000 in
theorem rrotate_no (a : Acc) (pw : ByteArray) (f : Fre) (w : World) (hus : a.user.size ≤ 1000) (hp0 : pw.size ≤ 1000) (k : ByteArray) (hu : unlB a pw = .one k) (hf : f.ok = false) :
    Calls Tryz.prog 14 #[a.v, .string pw, f.v] w fun e w' => e = .returned (.tuple #[noAcc.v, .int .i64 1]) ∧ Below w.heap.size w w' := by
  have U := Lib.hid (fun w => runlock_any a pw w hp0 hus)
  rw [hu] at U
  have ho := (unl_one hu).2.2.2
  have WR := Lib.hid (fun w => rwrap_no a pw f w hus (by
    rintro ⟨-, h⟩
    rw [hf] at h
    cases h))
  unfold noAcc bs at WR
  obtain ⟨user, salt, rounds, epoch, pub, nonce, wrapped, old⟩ := a
  obtain ⟨fs, fn, fp, fr⟩ := f
  unfold Fre.v Acc.v at *
  simp only at *
  have R0 := Lib.hid (rwAF w user salt rounds epoch pub nonce wrapped old fs fn fp fr 32 36 32)
  have IX := Lib.hid (infoRA user salt rounds epoch pub nonce wrapped old)
  have IA := Lib.hid (infoRA ⟨#[]⟩ ⟨#[]⟩ 0 0 ⟨#[]⟩ ⟨#[]⟩ ⟨#[]⟩ ⟨#[]⟩)
  have oz : ¬ (old.size : Int) > 0 := by omega
  clear hu hp0 hus ho hf
  go_enter Tryz.func14, Tryz.ntmps14
  go_upto_region 1 with fail
  generalize ((w.alloc (.cells #[.string user, .string salt, .int .i64 rounds, .int .i64 epoch, .string pub, .string nonce, .string wrapped, .string old] 32 (0, 0))).alloc (.cells #[.string fs, .string fn, .string fp, .int .i64 fr] 36 (0, 0))).alloc _ = W at R0 ⊢
  generalize w.heap.size = ga at *
  generalize hgb : ga + 1 = gb at *
  have RA := Lib.hid (R0.out.row 0)
  go_wp2_with (with_reducible refine wpList_load_row rfl 32 (.tmp 3) rfl ga rfl 32 (accA user salt rounds epoch pub nonce wrapped old) (0, 0) _ RA.out Tryz.underlying32 rfl IX.out ?_)
  refine (U.out _).mono ?_
  rintro e w1 ⟨⟨gk, hge, rfl, hrow⟩, hb⟩
  have R1 := Lib.hid (R0.out.join hb hge hrow)
  clear hrow hge hb R0 U RA
  have c7 := R1.out.cell 0 7 (cs := accA user salt rounds epoch pub nonce wrapped old) (v := .string old) rfl
  go_upto_region 6 with fail
  clear c7
  obtain ⟨c0, c1, c2, c3⟩ := fre_cells R1.out 1 rfl
  have RA := Lib.hid (R1.out.row 0)
  go_wp2_with (with_reducible refine wpList_load_row rfl 32 (.tmp 3) rfl ga rfl 32 (accA user salt rounds epoch pub nonce wrapped old) (0, 0) _ RA.out Tryz.underlying32 rfl IX.out ?_)
  refine (WR.out _).mono ?_
  rintro e w3 ⟨rfl, hb⟩
  have R3 := Lib.hid (R1.out.on hb)
  clear hb R1 WR c0 c1 c2 c3 RA
  have R4 := Lib.hid (show Rw _ _ (w3.alloc (.cells #[.string ⟨#[]⟩, .string ⟨#[]⟩, .int .i64 0, .int .i64 0, .string ⟨#[]⟩, .string ⟨#[]⟩, .string ⟨#[]⟩, .string ⟨#[]⟩] 32 (0, 0))) from R3.out.alloc (accA ⟨#[]⟩ ⟨#[]⟩ 0 0 ⟨#[]⟩ ⟨#[]⟩ ⟨#[]⟩ ⟨#[]⟩) 32)
  go_upto_region 8 with fail
  clear R3
  generalize w3.heap.size = gw at *
  generalize w3.alloc (.cells #[.string ⟨#[]⟩, .string ⟨#[]⟩, .int .i64 0, .int .i64 0, .string ⟨#[]⟩, .string ⟨#[]⟩, .string ⟨#[]⟩, .string ⟨#[]⟩] 32 (0, 0)) = w3s at *
  have R5 := Lib.hid (R4.out.store 2 (accA ⟨#[]⟩ ⟨#[]⟩ 0 0 ⟨#[]⟩ ⟨#[]⟩ ⟨#[]⟩ ⟨#[]⟩))
  have RB := Lib.hid (R4.out.row 2)
  go_wp2_with (with_reducible refine wpList_store_row rfl 32 (.tmp 6) (.tmp 36) rfl (gb + 1) (accA ⟨#[]⟩ ⟨#[]⟩ 0 0 ⟨#[]⟩ ⟨#[]⟩ ⟨#[]⟩ ⟨#[]⟩) rfl rfl 32 (accA ⟨#[]⟩ ⟨#[]⟩ 0 0 ⟨#[]⟩ ⟨#[]⟩ ⟨#[]⟩ ⟨#[]⟩) RB.out IA.out rfl (one_accA _ _ _ _ _ _ _ _) ?_)
  exact bodyPost_ret (results_row_slot rfl _ _ (gb + 1) 32 (accA ⟨#[]⟩ ⟨#[]⟩ 0 0 ⟨#[]⟩ ⟨#[]⟩ ⟨#[]⟩ ⟨#[]⟩) (0, 0) _ (.int .i64 1) rfl rfl (R5.out.row 2) Tryz.underlying32 rfl IA.out) rfl ⟨rfl, R5.out.bel⟩
set_option maxRecDepth 1000000 in
set_option maxHeartbeats 4000000 in
theorem rrotate_yes (a : Acc) (pw : ByteArray) (f : Fre) (w : World) (hus : a.user.size ≤ 1000) (hp0 : pw.size ≤ 1000) (k : ByteArray) (hu : unlB a pw = .one k) (hf : f.ok = true) :
    Calls Tryz.prog 14 #[a.v, .string pw, f.v] w fun e w' => e = .returned (.tuple #[({ rwA a pw f with epoch := 1 - a.epoch, old := sealA (undB f.priv) f.nonce (xB f.priv baseB) k } : Acc).v, .int .i64 0]) ∧ Below w.heap.size w w' := by
  have U := Lib.hid (fun w => runlock_any a pw w hp0 hus)
  rw [hu] at U
  have h1 := unl_one hu
  have h2 := Acc.fits_of h1.1
  have ho := h1.2.2.2
  have hk := h1.2.1
  have he := h2.e
  have hq := (rwB_parts (fre_rw hf)).2.1
  have hfp := fre_priv hf
  have WR := Lib.hid (fun w => rwrap_yes a pw f w hp0 h2.user hf)
  have hq2 : (rwA a pw f).nonce = f.nonce := rfl
  have hq3 : (rwA a pw f).pub = xB f.priv baseB := rfl
  have hx := size_xB f.priv baseB
  have UN := Lib.hid (fun w => runder_any f.priv w (by omega))
  have SL := Lib.hid (fun w => rsealA_any (undB f.priv) f.nonce (xB f.priv baseB) k w (size_undB f.priv) hq (by omega) (by omega))
  generalize sealA (undB f.priv) f.nonce (xB f.priv baseB) k = y at *
  generalize undB f.priv = key2 at *
  generalize rwA a pw f = Q at *
  obtain ⟨z0, z1, z2, z3, z4, z5, z6, z7⟩ := Q
  simp only at hq2 hq3
  clear h1 h2 hx
  obtain ⟨user, salt, rounds, epoch, pub, nonce, wrapped, old⟩ := a
  obtain ⟨fs, fn, fp, fr⟩ := f
  unfold Fre.v Acc.v at *
  simp only at *
  have R0 := Lib.hid (rwAF w user salt rounds epoch pub nonce wrapped old fs fn fp fr 32 36 32)
  have IX := Lib.hid (infoRA user salt rounds epoch pub nonce wrapped old)
  rw [← hq2, ← hq3] at SL
  have IA := Lib.hid (infoRA z0 z1 z2 (1 - epoch) z4 z5 z6 y)
  have oz : ¬ (old.size : Int) > 0 := by omega
  have e0 : (0 : Int) ≤ epoch := by omega
  have e1 : epoch ≤ 1 := by omega
  clear hu hp0 hus ho hf hk he hq hq2 hq3 hfp
  go_enter Tryz.func14, Tryz.ntmps14
  go_upto_region 1 with fail
  generalize ((w.alloc (.cells #[.string user, .string salt, .int .i64 rounds, .int .i64 epoch, .string pub, .string nonce, .string wrapped, .string old] 32 (0, 0))).alloc (.cells #[.string fs, .string fn, .string fp, .int .i64 fr] 36 (0, 0))).alloc _ = W at R0 ⊢
  generalize w.heap.size = ga at *
  generalize hgb : ga + 1 = gb at *
  have RA := Lib.hid (R0.out.row 0)
  go_wp2_with (with_reducible refine wpList_load_row rfl 32 (.tmp 3) rfl ga rfl 32 (accA user salt rounds epoch pub nonce wrapped old) (0, 0) _ RA.out Tryz.underlying32 rfl IX.out ?_)
  refine (U.out _).mono ?_
  rintro e w1 ⟨⟨gk, hge, rfl, hrow⟩, hb⟩
  have R1 := Lib.hid (R0.out.join hb hge hrow)
  clear hrow hge hb R0 U RA
  have c7 := R1.out.cell 0 7 (cs := accA user salt rounds epoch pub nonce wrapped old) (v := .string old) rfl
  go_upto_region 6 with fail
  clear c7
  obtain ⟨c0, c1, c2, c3⟩ := fre_cells R1.out 1 rfl
  have RA := Lib.hid (R1.out.row 0)
  go_wp2_with (with_reducible refine wpList_load_row rfl 32 (.tmp 3) rfl ga rfl 32 (accA user salt rounds epoch pub nonce wrapped old) (0, 0) _ RA.out Tryz.underlying32 rfl IX.out ?_)
  refine (WR.out _).mono ?_
  rintro e w3 ⟨rfl, hb⟩
  have R3 := Lib.hid (R1.out.on hb)
  clear hb R1 WR c0 c1 c2 c3 RA
  have R4 := Lib.hid (show Rw _ _ (w3.alloc (.cells #[.string z0, .string z1, .int .i64 z2, .int .i64 z3, .string z4, .string z5, .string z6, .string z7] 32 (0, 0))) from R3.out.alloc (accA z0 z1 z2 z3 z4 z5 z6 z7) 32)
  go_upto_region 9 with fail
  clear R3
  generalize w3.heap.size = gw at *
  generalize w3.alloc (.cells #[.string z0, .string z1, .int .i64 z2, .int .i64 z3, .string z4, .string z5, .string z6, .string z7] 32 (0, 0)) = w3s at *
  have RG := Lib.hid (fun p : BW w3s => R4.out.on p.2)
  have v0 := fun p : BW w3s => (RG.out p).cell 1 2 (cs := freA fs fn fp fr) (v := .string fp) rfl
  have v1 := fun p : BW w3s => (RG.out p).cell 4 5 (cs := accA z0 z1 z2 z3 z4 z5 z6 z7) (v := .string z5) rfl
  have v2 := fun p : BW w3s => (RG.out p).cell 4 4 (cs := accA z0 z1 z2 z3 z4 z5 z6 z7) (v := .string z4) rfl
  have v3 := fun p : BW w3s => (RG.out p).cell 3 0 (cs := #[.string k]) (v := .string k) rfl
  refine wp_region_below_tail 11 (by kernel_rfl) (by kernel_rfl) ?_
  simp only [List.take_succ_cons, List.take_zero, List.drop_succ_cons, List.drop_zero]
  repeat (go_big_quiet_step (first | exact calls_below (UN.out _) | exact calls_below (SL.out _)))
  refine wpQuiet_nil ?_
  rintro _ ⟨p, rfl⟩
  have R5 := Lib.hid (RG.out p)
  generalize p.1 = w5 at R5 ⊢
  clear v0 v1 v2 v3 RG R4
  have q7 := R5.out.cell 4 7 (cs := accA z0 z1 z2 z3 z4 z5 z6 z7) (v := .string z7) rfl
  have f7 := R5.out.free 4 7
  have R6 := Lib.hid (R5.out.put 4 7 (.string y))
  go_upto_region 10 with fail
  clear q7 f7 R5
  generalize World.setCell w5 _ _ = w6 at R6 ⊢
  have R6 := Lib.hid (show Rw _ [(ga, accA user salt rounds epoch pub nonce wrapped old, 32), (gb, freA fs fn fp fr, 36), (gb + 1, accA ⟨#[]⟩ ⟨#[]⟩ 0 0 ⟨#[]⟩ ⟨#[]⟩ ⟨#[]⟩ ⟨#[]⟩, 32), (gk, #[.string k], 9), (gw, accA z0 z1 z2 z3 z4 z5 z6 y, 32)] w6 from R6.out)
  have q3 := R6.out.cell 4 3 (cs := accA z0 z1 z2 z3 z4 z5 z6 y) (v := .int .i64 z3) rfl
  have f3 := R6.out.free 4 3
  have c3 := R6.out.cell 0 3 (cs := accA user salt rounds epoch pub nonce wrapped old) (v := .int .i64 epoch) rfl
  have R7 := Lib.hid (R6.out.put 4 3 (.int .i64 (1 - epoch)))
  go_upto_region 11 with fail
  clear q3 f3 c3 R6
  generalize World.setCell w6 _ _ = w7 at R7 ⊢
  have R7 := Lib.hid (show Rw _ [(ga, accA user salt rounds epoch pub nonce wrapped old, 32), (gb, freA fs fn fp fr, 36), (gb + 1, accA ⟨#[]⟩ ⟨#[]⟩ 0 0 ⟨#[]⟩ ⟨#[]⟩ ⟨#[]⟩ ⟨#[]⟩, 32), (gk, #[.string k], 9), (gw, accA z0 z1 z2 (1 - epoch) z4 z5 z6 y, 32)] w7 from R7.out)
  have RA := Lib.hid (R7.out.row 4)
  have RB := Lib.hid (R7.out.row 2)
  have R8 := Lib.hid (R7.out.store 2 (accA z0 z1 z2 (1 - epoch) z4 z5 z6 y))
  go_wp2_with (first
    | (with_reducible refine wpList_load_row rfl 32 (.tmp 10) rfl gw rfl 32 (accA z0 z1 z2 (1 - epoch) z4 z5 z6 y) (0, 0) _ RA.out Tryz.underlying32 rfl IA.out ?_)
    | (with_reducible refine wpList_store_row rfl 32 (.tmp 6) (.tmp 53) rfl (gb + 1) (accA z0 z1 z2 (1 - epoch) z4 z5 z6 y) rfl rfl 32 (accA ⟨#[]⟩ ⟨#[]⟩ 0 0 ⟨#[]⟩ ⟨#[]⟩ ⟨#[]⟩ ⟨#[]⟩) RB.out IA.out rfl (one_accA _ _ _ _ _ _ _ _) ?_))
  exact bodyPost_ret (results_row_slot rfl _ _ (gb + 1) 32 (accA z0 z1 z2 (1 - epoch) z4 z5 z6 y) (0, 0) _ (.int .i64 0) rfl rfl (R8.out.row 2) Tryz.underlying32 rfl IA.out) rfl ⟨rfl, R8.out.bel⟩
theorem rrotate_any (a : Acc) (pw : ByteArray) (f : Fre) (w : World) (hus : a.user.size ≤ 1000) (hp0 : pw.size ≤ 1000) :
    Calls Tryz.prog 14 #[a.v, .string pw, f.v] w fun e w' => e = .returned (.tuple #[(rotB a pw f).1.v, .int .i64 (rotB a pw f).2]) ∧ Below w.heap.size w w' := by
  unfold rotB
  cases hu : unlB a pw with
  | err n => exact rrotate_err a pw f w hus hp0 n hu (unl_err hu)
  | one k =>
    cases hf : f.ok with
    | false => simp only; rw [if_neg (by simp)]; exact rrotate_no a pw f w hus hp0 k hu hf
    | true =>
      simp only
      rw [if_pos (by simp)]
      exact rrotate_yes a pw f w hus hp0 k hu hf
  | two k o => exact rrotate_two a pw f w hus hp0 k o hu
end Go.Proofs.YtfckjilhkdlpfaaGreatDoor
