/-
  mailsackref13.Change: the walks.
-/
import Derived.Test.YtfckjilhkdlpfaaGreatDoorRqC
import Derived.Test.YtfckjilhkdlpfaaGreatDoorRkG
namespace Go.Proofs.YtfckjilhkdlpfaaGreatDoor
open Go.RowKit MS

set_option maxRecDepth 1000000 in
set_option maxHeartbeats 4000000 in
theorem rchange_err (a : Acc) (old0 pw : ByteArray) (f : Fre) (w : World) (hus : a.user.size ≤ 1000) (hp0 : old0.size ≤ 1000) (n : Int) (hu : unlB a old0 = .err n) (hn : n ≠ 0) :
    Calls Tryz.prog 11 #[a.v, .string old0, .string pw, f.v] w fun e w' => e = .returned (.tuple #[noAcc.v, .int .i64 n]) ∧ Below w.heap.size w w' := by
  have U := Lib.hid (fun w => runlock_any a old0 w hp0 hus)
  rw [hu] at U
  obtain ⟨user, salt, rounds, epoch, pub, nonce, wrapped, old⟩ := a
  obtain ⟨fs, fn, fp, fr⟩ := f
  unfold Fre.v Acc.v at *
  simp only at *
  have R0 := Lib.hid (rwAF w user salt rounds epoch pub nonce wrapped old fs fn fp fr 32 36 32)
  have IX := Lib.hid (infoRA user salt rounds epoch pub nonce wrapped old)
  have IA := Lib.hid (infoRA ⟨#[]⟩ ⟨#[]⟩ 0 0 ⟨#[]⟩ ⟨#[]⟩ ⟨#[]⟩ ⟨#[]⟩)
  have n1 : (n != 0) = true := by simpa using hn
  clear hu hp0 hus
  go_enter Tryz.func11, Tryz.ntmps11
  go_upto_region 1 with fail
  generalize ((w.alloc (.cells #[.string user, .string salt, .int .i64 rounds, .int .i64 epoch, .string pub, .string nonce, .string wrapped, .string old] 32 (0, 0))).alloc (.cells #[.string fs, .string fn, .string fp, .int .i64 fr] 36 (0, 0))).alloc _ = W at R0 ⊢
  generalize w.heap.size = ga at *
  generalize hgb : ga + 1 = gb at *
  have RA := Lib.hid (R0.out.row 0)
  go_wp2_with (with_reducible refine wpList_load_row rfl 32 (.tmp 4) rfl ga rfl 32 (accA user salt rounds epoch pub nonce wrapped old) (0, 0) _ RA.out Tryz.underlying32 rfl IX.out ?_)
  refine (U.out _).mono ?_
  rintro e w1 ⟨h, hb⟩
  obtain rfl := h
  have R1 := Lib.hid (R0.out.on hb)
  have R2 := Lib.hid (R1.out.store 2 (accA ⟨#[]⟩ ⟨#[]⟩ 0 0 ⟨#[]⟩ ⟨#[]⟩ ⟨#[]⟩ ⟨#[]⟩))
  have RB := Lib.hid (R1.out.row 2)
  clear hb R0 U RA
  go_wp2_with (with_reducible refine wpList_store_row rfl 32 (.tmp 8) (.tmp 22) rfl (gb + 1) (accA ⟨#[]⟩ ⟨#[]⟩ 0 0 ⟨#[]⟩ ⟨#[]⟩ ⟨#[]⟩ ⟨#[]⟩) rfl rfl 32 (accA ⟨#[]⟩ ⟨#[]⟩ 0 0 ⟨#[]⟩ ⟨#[]⟩ ⟨#[]⟩ ⟨#[]⟩) RB.out IA.out rfl (one_accA _ _ _ _ _ _ _ _) ?_)
  exact bodyPost_ret (results_row_slot rfl _ _ (gb + 1) 32 (accA ⟨#[]⟩ ⟨#[]⟩ 0 0 ⟨#[]⟩ ⟨#[]⟩ ⟨#[]⟩ ⟨#[]⟩) (0, 0) _ (.int .i64 n) rfl rfl (R2.out.row 2) Tryz.underlying32 rfl IA.out) rfl ⟨rfl, R2.out.bel⟩
set_option maxRecDepth 1000000 in
set_option maxHeartbeats 4000000 in
theorem rchange_no_one (a : Acc) (old0 pw : ByteArray) (f : Fre) (w : World) (hus : a.user.size ≤ 1000) (hp0 : old0.size ≤ 1000) (k : ByteArray) (hu : unlB a old0 = .one k) (hf : f.rw = false) :
    Calls Tryz.prog 11 #[a.v, .string old0, .string pw, f.v] w fun e w' => e = .returned (.tuple #[noAcc.v, .int .i64 1]) ∧ Below w.heap.size w w' := by
  have U := Lib.hid (fun w => runlock_any a old0 w hp0 hus)
  rw [hu] at U
  have WR := Lib.hid (fun w => rwrap_no a pw ⟨f.salt, f.nonce, k, f.rounds⟩ w hus (by
    rintro ⟨-, h⟩
    have h2 := fre_rw h
    rw [show Fre.rw ⟨f.salt, f.nonce, k, f.rounds⟩ = f.rw from rfl, hf] at h2
    cases h2))
  unfold noAcc bs at WR
  obtain ⟨user, salt, rounds, epoch, pub, nonce, wrapped, old⟩ := a
  obtain ⟨fs, fn, fp, fr⟩ := f
  unfold Fre.v Acc.v at *
  simp only at *
  have R0 := Lib.hid (rwAF w user salt rounds epoch pub nonce wrapped old fs fn fp fr 32 36 32)
  have IX := Lib.hid (infoRA user salt rounds epoch pub nonce wrapped old)
  have IA := Lib.hid (infoRA ⟨#[]⟩ ⟨#[]⟩ 0 0 ⟨#[]⟩ ⟨#[]⟩ ⟨#[]⟩ ⟨#[]⟩)
  clear hu hp0 hus hf
  go_enter Tryz.func11, Tryz.ntmps11
  go_upto_region 1 with fail
  generalize ((w.alloc (.cells #[.string user, .string salt, .int .i64 rounds, .int .i64 epoch, .string pub, .string nonce, .string wrapped, .string old] 32 (0, 0))).alloc (.cells #[.string fs, .string fn, .string fp, .int .i64 fr] 36 (0, 0))).alloc _ = W at R0 ⊢
  generalize w.heap.size = ga at *
  generalize hgb : ga + 1 = gb at *
  have RA := Lib.hid (R0.out.row 0)
  go_wp2_with (with_reducible refine wpList_load_row rfl 32 (.tmp 4) rfl ga rfl 32 (accA user salt rounds epoch pub nonce wrapped old) (0, 0) _ RA.out Tryz.underlying32 rfl IX.out ?_)
  refine (U.out _).mono ?_
  rintro e w1 ⟨⟨gk, hge, rfl, hrow⟩, hb⟩
  have R1 := Lib.hid (R0.out.join hb hge hrow)
  clear hrow hge hb R0 U RA
  have k0 := R1.out.cell 3 0 (cs := #[.string k]) (v := .string k) rfl
  have d2 := R1.out.cell 1 2 (cs := freA fs fn fp fr) (v := .string fp) rfl
  have f2 := R1.out.free 1 2
  have R2 := Lib.hid (R1.out.put 1 2 (.string k))
  go_upto_region 5 with fail
  clear k0 d2 f2 R1
  generalize World.setCell w1 _ _ = w2 at R2 ⊢
  have R2 := Lib.hid (show Rw w [(ga, accA user salt rounds epoch pub nonce wrapped old, 32), (gb, freA fs fn k fr, 36), (gb + 1, accA ⟨#[]⟩ ⟨#[]⟩ 0 0 ⟨#[]⟩ ⟨#[]⟩ ⟨#[]⟩ ⟨#[]⟩, 32), (gk, #[.string k], 9)] w2 from R2.out)
  obtain ⟨c0, c1, c2, c3⟩ := fre_cells R2.out 1 rfl
  have RA := Lib.hid (R2.out.row 0)
  go_wp2_with (with_reducible refine wpList_load_row rfl 32 (.tmp 4) rfl ga rfl 32 (accA user salt rounds epoch pub nonce wrapped old) (0, 0) _ RA.out Tryz.underlying32 rfl IX.out ?_)
  refine (WR.out _).mono ?_
  rintro e w3 ⟨rfl, hb⟩
  have R3 := Lib.hid (R2.out.on hb)
  clear hb R2 WR c0 c1 c2 c3 RA
  have R4 := Lib.hid (show Rw _ _ (w3.alloc (.cells #[.string ⟨#[]⟩, .string ⟨#[]⟩, .int .i64 0, .int .i64 0, .string ⟨#[]⟩, .string ⟨#[]⟩, .string ⟨#[]⟩, .string ⟨#[]⟩] 32 (0, 0))) from R3.out.alloc (accA ⟨#[]⟩ ⟨#[]⟩ 0 0 ⟨#[]⟩ ⟨#[]⟩ ⟨#[]⟩ ⟨#[]⟩) 32)
  go_upto_region 7 with fail
  clear R3
  generalize w3.heap.size = gw at *
  generalize w3.alloc (.cells #[.string ⟨#[]⟩, .string ⟨#[]⟩, .int .i64 0, .int .i64 0, .string ⟨#[]⟩, .string ⟨#[]⟩, .string ⟨#[]⟩, .string ⟨#[]⟩] 32 (0, 0)) = w3s at *
  have R5 := Lib.hid (R4.out.store 2 (accA ⟨#[]⟩ ⟨#[]⟩ 0 0 ⟨#[]⟩ ⟨#[]⟩ ⟨#[]⟩ ⟨#[]⟩))
  have RB := Lib.hid (R4.out.row 2)
  go_wp2_with (with_reducible refine wpList_store_row rfl 32 (.tmp 8) (.tmp 37) rfl (gb + 1) (accA ⟨#[]⟩ ⟨#[]⟩ 0 0 ⟨#[]⟩ ⟨#[]⟩ ⟨#[]⟩ ⟨#[]⟩) rfl rfl 32 (accA ⟨#[]⟩ ⟨#[]⟩ 0 0 ⟨#[]⟩ ⟨#[]⟩ ⟨#[]⟩ ⟨#[]⟩) RB.out IA.out rfl (one_accA _ _ _ _ _ _ _ _) ?_)
  exact bodyPost_ret (results_row_slot rfl _ _ (gb + 1) 32 (accA ⟨#[]⟩ ⟨#[]⟩ 0 0 ⟨#[]⟩ ⟨#[]⟩ ⟨#[]⟩ ⟨#[]⟩) (0, 0) _ (.int .i64 1) rfl rfl (R5.out.row 2) Tryz.underlying32 rfl IA.out) rfl ⟨rfl, R5.out.bel⟩
set_option maxRecDepth 1000000 in
set_option maxHeartbeats 4000000 in
theorem rchange_no_two (a : Acc) (old0 pw : ByteArray) (f : Fre) (w : World) (hus : a.user.size ≤ 1000) (hp0 : old0.size ≤ 1000) (k o : ByteArray) (hu : unlB a old0 = .two k o) (hf : f.rw = false) :
    Calls Tryz.prog 11 #[a.v, .string old0, .string pw, f.v] w fun e w' => e = .returned (.tuple #[noAcc.v, .int .i64 1]) ∧ Below w.heap.size w w' := by
  have U := Lib.hid (fun w => runlock_any a old0 w hp0 hus)
  rw [hu] at U
  have WR := Lib.hid (fun w => rwrap_no a pw ⟨f.salt, f.nonce, k, f.rounds⟩ w hus (by
    rintro ⟨-, h⟩
    have h2 := fre_rw h
    rw [show Fre.rw ⟨f.salt, f.nonce, k, f.rounds⟩ = f.rw from rfl, hf] at h2
    cases h2))
  unfold noAcc bs at WR
  obtain ⟨user, salt, rounds, epoch, pub, nonce, wrapped, old⟩ := a
  obtain ⟨fs, fn, fp, fr⟩ := f
  unfold Fre.v Acc.v at *
  simp only at *
  have R0 := Lib.hid (rwAF w user salt rounds epoch pub nonce wrapped old fs fn fp fr 32 36 32)
  have IX := Lib.hid (infoRA user salt rounds epoch pub nonce wrapped old)
  have IA := Lib.hid (infoRA ⟨#[]⟩ ⟨#[]⟩ 0 0 ⟨#[]⟩ ⟨#[]⟩ ⟨#[]⟩ ⟨#[]⟩)
  clear hu hp0 hus hf
  go_enter Tryz.func11, Tryz.ntmps11
  go_upto_region 1 with fail
  generalize ((w.alloc (.cells #[.string user, .string salt, .int .i64 rounds, .int .i64 epoch, .string pub, .string nonce, .string wrapped, .string old] 32 (0, 0))).alloc (.cells #[.string fs, .string fn, .string fp, .int .i64 fr] 36 (0, 0))).alloc _ = W at R0 ⊢
  generalize w.heap.size = ga at *
  generalize hgb : ga + 1 = gb at *
  have RA := Lib.hid (R0.out.row 0)
  go_wp2_with (with_reducible refine wpList_load_row rfl 32 (.tmp 4) rfl ga rfl 32 (accA user salt rounds epoch pub nonce wrapped old) (0, 0) _ RA.out Tryz.underlying32 rfl IX.out ?_)
  refine (U.out _).mono ?_
  rintro e w1 ⟨⟨gk, hge, rfl, hrow⟩, hb⟩
  have R1 := Lib.hid (R0.out.join hb hge hrow)
  clear hrow hge hb R0 U RA
  have k0 := R1.out.cell 3 0 (cs := #[.string k, .string o]) (v := .string k) rfl
  have d2 := R1.out.cell 1 2 (cs := freA fs fn fp fr) (v := .string fp) rfl
  have f2 := R1.out.free 1 2
  have R2 := Lib.hid (R1.out.put 1 2 (.string k))
  go_upto_region 5 with fail
  clear k0 d2 f2 R1
  generalize World.setCell w1 _ _ = w2 at R2 ⊢
  have R2 := Lib.hid (show Rw w [(ga, accA user salt rounds epoch pub nonce wrapped old, 32), (gb, freA fs fn k fr, 36), (gb + 1, accA ⟨#[]⟩ ⟨#[]⟩ 0 0 ⟨#[]⟩ ⟨#[]⟩ ⟨#[]⟩ ⟨#[]⟩, 32), (gk, #[.string k, .string o], 9)] w2 from R2.out)
  obtain ⟨c0, c1, c2, c3⟩ := fre_cells R2.out 1 rfl
  have RA := Lib.hid (R2.out.row 0)
  go_wp2_with (with_reducible refine wpList_load_row rfl 32 (.tmp 4) rfl ga rfl 32 (accA user salt rounds epoch pub nonce wrapped old) (0, 0) _ RA.out Tryz.underlying32 rfl IX.out ?_)
  refine (WR.out _).mono ?_
  rintro e w3 ⟨rfl, hb⟩
  have R3 := Lib.hid (R2.out.on hb)
  clear hb R2 WR c0 c1 c2 c3 RA
  have R4 := Lib.hid (show Rw _ _ (w3.alloc (.cells #[.string ⟨#[]⟩, .string ⟨#[]⟩, .int .i64 0, .int .i64 0, .string ⟨#[]⟩, .string ⟨#[]⟩, .string ⟨#[]⟩, .string ⟨#[]⟩] 32 (0, 0))) from R3.out.alloc (accA ⟨#[]⟩ ⟨#[]⟩ 0 0 ⟨#[]⟩ ⟨#[]⟩ ⟨#[]⟩ ⟨#[]⟩) 32)
  go_upto_region 7 with fail
  clear R3
  generalize w3.heap.size = gw at *
  generalize w3.alloc (.cells #[.string ⟨#[]⟩, .string ⟨#[]⟩, .int .i64 0, .int .i64 0, .string ⟨#[]⟩, .string ⟨#[]⟩, .string ⟨#[]⟩, .string ⟨#[]⟩] 32 (0, 0)) = w3s at *
  have R5 := Lib.hid (R4.out.store 2 (accA ⟨#[]⟩ ⟨#[]⟩ 0 0 ⟨#[]⟩ ⟨#[]⟩ ⟨#[]⟩ ⟨#[]⟩))
  have RB := Lib.hid (R4.out.row 2)
  go_wp2_with (with_reducible refine wpList_store_row rfl 32 (.tmp 8) (.tmp 37) rfl (gb + 1) (accA ⟨#[]⟩ ⟨#[]⟩ 0 0 ⟨#[]⟩ ⟨#[]⟩ ⟨#[]⟩ ⟨#[]⟩) rfl rfl 32 (accA ⟨#[]⟩ ⟨#[]⟩ 0 0 ⟨#[]⟩ ⟨#[]⟩ ⟨#[]⟩ ⟨#[]⟩) RB.out IA.out rfl (one_accA _ _ _ _ _ _ _ _) ?_)
  exact bodyPost_ret (results_row_slot rfl _ _ (gb + 1) 32 (accA ⟨#[]⟩ ⟨#[]⟩ 0 0 ⟨#[]⟩ ⟨#[]⟩ ⟨#[]⟩ ⟨#[]⟩) (0, 0) _ (.int .i64 1) rfl rfl (R5.out.row 2) Tryz.underlying32 rfl IA.out) rfl ⟨rfl, R5.out.bel⟩
set_option maxRecDepth 1000000 in
set_option maxHeartbeats 4000000 in
theorem rchange_one (a : Acc) (old0 pw : ByteArray) (f : Fre) (w : World) (hus : a.user.size ≤ 1000) (hp0 : old0.size ≤ 1000) (hp : pw.size ≤ 1000) (k : ByteArray) (hu : unlB a old0 = .one k) (hf : f.rw = true) :
    Calls Tryz.prog 11 #[a.v, .string old0, .string pw, f.v] w fun e w' => e = .returned (.tuple #[(rwA a pw ⟨f.salt, f.nonce, k, f.rounds⟩).v, .int .i64 0]) ∧ Below w.heap.size w w' := by
  have U := Lib.hid (fun w => runlock_any a old0 w hp0 hus)
  rw [hu] at U
  have h1 := unl_one hu
  have h2 := Acc.fits_of h1.1
  have hk := h1.2.1
  have hq := (rwB_parts hf).2.1
  have WR := Lib.hid (fun w => rwrap_yes a pw ⟨f.salt, f.nonce, k, f.rounds⟩ w hp h2.user (by
    have h3 : Fre.rw ⟨f.salt, f.nonce, k, f.rounds⟩ = true := hf
    unfold Fre.ok
    rw [h3, hk]
    rfl))
  have hq2 : (rwA a pw ⟨f.salt, f.nonce, k, f.rounds⟩).nonce = f.nonce := rfl
  have hq3 : (rwA a pw ⟨f.salt, f.nonce, k, f.rounds⟩).pub = xB k baseB := rfl
  have hx := size_xB k baseB
  generalize rwA a pw ⟨f.salt, f.nonce, k, f.rounds⟩ = Q at *
  obtain ⟨z0, z1, z2, z3, z4, z5, z6, z7⟩ := Q
  simp only at hq2 hq3
  clear h1 h2 hk hx
  obtain ⟨user, salt, rounds, epoch, pub, nonce, wrapped, old⟩ := a
  obtain ⟨fs, fn, fp, fr⟩ := f
  unfold Fre.v Acc.v at *
  simp only at *
  have R0 := Lib.hid (rwAF w user salt rounds epoch pub nonce wrapped old fs fn fp fr 32 36 32)
  have IX := Lib.hid (infoRA user salt rounds epoch pub nonce wrapped old)
  have IA := Lib.hid (infoRA z0 z1 z2 z3 z4 z5 z6 z7)
  clear hu hp0 hp hus hf hq hq2 hq3
  go_enter Tryz.func11, Tryz.ntmps11
  go_upto_region 1 with fail
  generalize ((w.alloc (.cells #[.string user, .string salt, .int .i64 rounds, .int .i64 epoch, .string pub, .string nonce, .string wrapped, .string old] 32 (0, 0))).alloc (.cells #[.string fs, .string fn, .string fp, .int .i64 fr] 36 (0, 0))).alloc _ = W at R0 ⊢
  generalize w.heap.size = ga at *
  generalize hgb : ga + 1 = gb at *
  have RA := Lib.hid (R0.out.row 0)
  go_wp2_with (with_reducible refine wpList_load_row rfl 32 (.tmp 4) rfl ga rfl 32 (accA user salt rounds epoch pub nonce wrapped old) (0, 0) _ RA.out Tryz.underlying32 rfl IX.out ?_)
  refine (U.out _).mono ?_
  rintro e w1 ⟨⟨gk, hge, rfl, hrow⟩, hb⟩
  have R1 := Lib.hid (R0.out.join hb hge hrow)
  clear hrow hge hb R0 U RA
  have k0 := R1.out.cell 3 0 (cs := #[.string k]) (v := .string k) rfl
  have d2 := R1.out.cell 1 2 (cs := freA fs fn fp fr) (v := .string fp) rfl
  have f2 := R1.out.free 1 2
  have R2 := Lib.hid (R1.out.put 1 2 (.string k))
  go_upto_region 5 with fail
  clear k0 d2 f2 R1
  generalize World.setCell w1 _ _ = w2 at R2 ⊢
  have R2 := Lib.hid (show Rw w [(ga, accA user salt rounds epoch pub nonce wrapped old, 32), (gb, freA fs fn k fr, 36), (gb + 1, accA ⟨#[]⟩ ⟨#[]⟩ 0 0 ⟨#[]⟩ ⟨#[]⟩ ⟨#[]⟩ ⟨#[]⟩, 32), (gk, #[.string k], 9)] w2 from R2.out)
  obtain ⟨c0, c1, c2, c3⟩ := fre_cells R2.out 1 rfl
  have RA := Lib.hid (R2.out.row 0)
  go_wp2_with (with_reducible refine wpList_load_row rfl 32 (.tmp 4) rfl ga rfl 32 (accA user salt rounds epoch pub nonce wrapped old) (0, 0) _ RA.out Tryz.underlying32 rfl IX.out ?_)
  refine (WR.out _).mono ?_
  rintro e w3 ⟨rfl, hb⟩
  have R3 := Lib.hid (R2.out.on hb)
  clear hb R2 WR c0 c1 c2 c3 RA
  have R4 := Lib.hid (show Rw _ _ (w3.alloc (.cells #[.string z0, .string z1, .int .i64 z2, .int .i64 z3, .string z4, .string z5, .string z6, .string z7] 32 (0, 0))) from R3.out.alloc (accA z0 z1 z2 z3 z4 z5 z6 z7) 32)
  go_upto_region 10 with fail
  clear R3
  generalize w3.heap.size = gw at *
  generalize w3.alloc (.cells #[.string z0, .string z1, .int .i64 z2, .int .i64 z3, .string z4, .string z5, .string z6, .string z7] 32 (0, 0)) = w3s at *
  have RA := Lib.hid (R4.out.row 4)
  have RB := Lib.hid (R4.out.row 2)
  have R7 := Lib.hid (R4.out.store 2 (accA z0 z1 z2 z3 z4 z5 z6 z7))
  go_wp2_with (first
    | (with_reducible refine wpList_load_row rfl 32 (.tmp 12) rfl gw rfl 32 (accA z0 z1 z2 z3 z4 z5 z6 z7) (0, 0) _ RA.out Tryz.underlying32 rfl IA.out ?_)
    | (with_reducible refine wpList_store_row rfl 32 (.tmp 8) (.tmp 53) rfl (gb + 1) (accA z0 z1 z2 z3 z4 z5 z6 z7) rfl rfl 32 (accA ⟨#[]⟩ ⟨#[]⟩ 0 0 ⟨#[]⟩ ⟨#[]⟩ ⟨#[]⟩ ⟨#[]⟩) RB.out IA.out rfl (one_accA _ _ _ _ _ _ _ _) ?_))
  exact bodyPost_ret (results_row_slot rfl _ _ (gb + 1) 32 (accA z0 z1 z2 z3 z4 z5 z6 z7) (0, 0) _ (.int .i64 0) rfl rfl (R7.out.row 2) Tryz.underlying32 rfl IA.out) rfl ⟨rfl, R7.out.bel⟩
set_option maxRecDepth 1000000 in
set_option maxHeartbeats 4000000 in
theorem rchange_two (a : Acc) (old0 pw : ByteArray) (f : Fre) (w : World) (hus : a.user.size ≤ 1000) (hp0 : old0.size ≤ 1000) (hp : pw.size ≤ 1000) (k o : ByteArray) (hu : unlB a old0 = .two k o) (hf : f.rw = true) :
    Calls Tryz.prog 11 #[a.v, .string old0, .string pw, f.v] w fun e w' => e = .returned (.tuple #[({ rwA a pw ⟨f.salt, f.nonce, k, f.rounds⟩ with old := sealA (undB k) f.nonce (xB k baseB) o } : Acc).v, .int .i64 0]) ∧ Below w.heap.size w w' := by
  have U := Lib.hid (fun w => runlock_any a old0 w hp0 hus)
  rw [hu] at U
  have h1 := unl_two hu
  have h2 := Acc.fits_of h1.1
  have hk := h1.2.1
  have hq := (rwB_parts hf).2.1
  have WR := Lib.hid (fun w => rwrap_yes a pw ⟨f.salt, f.nonce, k, f.rounds⟩ w hp h2.user (by
    have h3 : Fre.rw ⟨f.salt, f.nonce, k, f.rounds⟩ = true := hf
    unfold Fre.ok
    rw [h3, hk]
    rfl))
  have hq2 : (rwA a pw ⟨f.salt, f.nonce, k, f.rounds⟩).nonce = f.nonce := rfl
  have hq3 : (rwA a pw ⟨f.salt, f.nonce, k, f.rounds⟩).pub = xB k baseB := rfl
  have hx := size_xB k baseB
  have ho := h1.2.2.2.1
  have UN := Lib.hid (fun w => runder_any k w (by omega))
  have SL := Lib.hid (fun w => rsealA_any (undB k) f.nonce (xB k baseB) o w (size_undB k) hq (by omega) (by omega))
  generalize sealA (undB k) f.nonce (xB k baseB) o = y at *
  generalize undB k = key2 at *
  generalize rwA a pw ⟨f.salt, f.nonce, k, f.rounds⟩ = Q at *
  obtain ⟨z0, z1, z2, z3, z4, z5, z6, z7⟩ := Q
  simp only at hq2 hq3
  clear h1 h2 hk hx
  obtain ⟨user, salt, rounds, epoch, pub, nonce, wrapped, old⟩ := a
  obtain ⟨fs, fn, fp, fr⟩ := f
  unfold Fre.v Acc.v at *
  simp only at *
  have R0 := Lib.hid (rwAF w user salt rounds epoch pub nonce wrapped old fs fn fp fr 32 36 32)
  have IX := Lib.hid (infoRA user salt rounds epoch pub nonce wrapped old)
  rw [← hq2, ← hq3] at SL
  clear ho
  have IA := Lib.hid (infoRA z0 z1 z2 z3 z4 z5 z6 y)
  clear hu hp0 hp hus hf hq hq2 hq3
  go_enter Tryz.func11, Tryz.ntmps11
  go_upto_region 1 with fail
  generalize ((w.alloc (.cells #[.string user, .string salt, .int .i64 rounds, .int .i64 epoch, .string pub, .string nonce, .string wrapped, .string old] 32 (0, 0))).alloc (.cells #[.string fs, .string fn, .string fp, .int .i64 fr] 36 (0, 0))).alloc _ = W at R0 ⊢
  generalize w.heap.size = ga at *
  generalize hgb : ga + 1 = gb at *
  have RA := Lib.hid (R0.out.row 0)
  go_wp2_with (with_reducible refine wpList_load_row rfl 32 (.tmp 4) rfl ga rfl 32 (accA user salt rounds epoch pub nonce wrapped old) (0, 0) _ RA.out Tryz.underlying32 rfl IX.out ?_)
  refine (U.out _).mono ?_
  rintro e w1 ⟨⟨gk, hge, rfl, hrow⟩, hb⟩
  have R1 := Lib.hid (R0.out.join hb hge hrow)
  clear hrow hge hb R0 U RA
  have k0 := R1.out.cell 3 0 (cs := #[.string k, .string o]) (v := .string k) rfl
  have d2 := R1.out.cell 1 2 (cs := freA fs fn fp fr) (v := .string fp) rfl
  have f2 := R1.out.free 1 2
  have R2 := Lib.hid (R1.out.put 1 2 (.string k))
  go_upto_region 5 with fail
  clear k0 d2 f2 R1
  generalize World.setCell w1 _ _ = w2 at R2 ⊢
  have R2 := Lib.hid (show Rw w [(ga, accA user salt rounds epoch pub nonce wrapped old, 32), (gb, freA fs fn k fr, 36), (gb + 1, accA ⟨#[]⟩ ⟨#[]⟩ 0 0 ⟨#[]⟩ ⟨#[]⟩ ⟨#[]⟩ ⟨#[]⟩, 32), (gk, #[.string k, .string o], 9)] w2 from R2.out)
  obtain ⟨c0, c1, c2, c3⟩ := fre_cells R2.out 1 rfl
  have RA := Lib.hid (R2.out.row 0)
  go_wp2_with (with_reducible refine wpList_load_row rfl 32 (.tmp 4) rfl ga rfl 32 (accA user salt rounds epoch pub nonce wrapped old) (0, 0) _ RA.out Tryz.underlying32 rfl IX.out ?_)
  refine (WR.out _).mono ?_
  rintro e w3 ⟨rfl, hb⟩
  have R3 := Lib.hid (R2.out.on hb)
  clear hb R2 WR c0 c1 c2 c3 RA
  have R4 := Lib.hid (show Rw _ _ (w3.alloc (.cells #[.string z0, .string z1, .int .i64 z2, .int .i64 z3, .string z4, .string z5, .string z6, .string z7] 32 (0, 0))) from R3.out.alloc (accA z0 z1 z2 z3 z4 z5 z6 z7) 32)
  go_upto_region 9 with fail
  clear R3
  generalize w3.heap.size = gw at *
  generalize w3.alloc (.cells #[.string z0, .string z1, .int .i64 z2, .int .i64 z3, .string z4, .string z5, .string z6, .string z7] 32 (0, 0)) = w3s at *
  have RG := Lib.hid (fun p : BW w3s => R4.out.on p.2)
  have e0 := fun p : BW w3s => (RG.out p).cell 1 2 (cs := freA fs fn k fr) (v := .string k) rfl
  have e1 := fun p : BW w3s => (RG.out p).cell 4 5 (cs := accA z0 z1 z2 z3 z4 z5 z6 z7) (v := .string z5) rfl
  have e2 := fun p : BW w3s => (RG.out p).cell 4 4 (cs := accA z0 z1 z2 z3 z4 z5 z6 z7) (v := .string z4) rfl
  have e3 := fun p : BW w3s => (RG.out p).cell 3 1 (cs := #[.string k, .string o]) (v := .string o) rfl
  refine wp_region_below_tail 11 (by kernel_rfl) (by kernel_rfl) ?_
  simp only [List.take_succ_cons, List.take_zero, List.drop_succ_cons, List.drop_zero]
  repeat (go_big_quiet_step (first | exact calls_below (UN.out _) | exact calls_below (SL.out _)))
  refine wpQuiet_nil ?_
  rintro _ ⟨p, rfl⟩
  have R5 := Lib.hid (RG.out p)
  generalize p.1 = w5 at R5 ⊢
  clear e0 e1 e2 e3 RG R4
  have q7 := R5.out.cell 4 7 (cs := accA z0 z1 z2 z3 z4 z5 z6 z7) (v := .string z7) rfl
  have f7 := R5.out.free 4 7
  have R6 := Lib.hid (R5.out.put 4 7 (.string y))
  go_upto_region 10 with fail
  clear q7 f7 R5
  generalize World.setCell w5 _ _ = w6 at R6 ⊢
  have R6 := Lib.hid (show Rw _ [(ga, accA user salt rounds epoch pub nonce wrapped old, 32), (gb, freA fs fn k fr, 36), (gb + 1, accA ⟨#[]⟩ ⟨#[]⟩ 0 0 ⟨#[]⟩ ⟨#[]⟩ ⟨#[]⟩ ⟨#[]⟩, 32), (gk, #[.string k, .string o], 9), (gw, accA z0 z1 z2 z3 z4 z5 z6 y, 32)] w6 from R6.out)
  have RA := Lib.hid (R6.out.row 4)
  have RB := Lib.hid (R6.out.row 2)
  have R7 := Lib.hid (R6.out.store 2 (accA z0 z1 z2 z3 z4 z5 z6 y))
  go_wp2_with (first
    | (with_reducible refine wpList_load_row rfl 32 (.tmp 12) rfl gw rfl 32 (accA z0 z1 z2 z3 z4 z5 z6 y) (0, 0) _ RA.out Tryz.underlying32 rfl IA.out ?_)
    | (with_reducible refine wpList_store_row rfl 32 (.tmp 8) (.tmp 53) rfl (gb + 1) (accA z0 z1 z2 z3 z4 z5 z6 y) rfl rfl 32 (accA ⟨#[]⟩ ⟨#[]⟩ 0 0 ⟨#[]⟩ ⟨#[]⟩ ⟨#[]⟩ ⟨#[]⟩) RB.out IA.out rfl (one_accA _ _ _ _ _ _ _ _) ?_))
  exact bodyPost_ret (results_row_slot rfl _ _ (gb + 1) 32 (accA z0 z1 z2 z3 z4 z5 z6 y) (0, 0) _ (.int .i64 0) rfl rfl (R7.out.row 2) Tryz.underlying32 rfl IA.out) rfl ⟨rfl, R7.out.bel⟩
theorem size_nil {s : ByteArray} (h : s.size = 0) : s = bs [] := by
  apply ls_inj
  rw [ls_bs]
  exact List.eq_nil_of_length_eq_zero (by rw [length_ls]; exact h)
theorem rwA_one {a : Acc} {old0 pw k : ByteArray} {f : Fre} (hu : unlB a old0 = .one k) : rwA a pw ⟨f.salt, f.nonce, k, f.rounds⟩ = wrapB a pw f k := by
  have h := unl_one hu
  unfold rwA wrapB
  rw [h.2.2.1, size_nil h.2.2.2]
theorem rwA_two {a : Acc} {old0 pw k o : ByteArray} {f : Fre} (hu : unlB a old0 = .two k o) : ({ rwA a pw ⟨f.salt, f.nonce, k, f.rounds⟩ with old := sealA (undB k) f.nonce (xB k baseB) o } : Acc) = wrapB2 a pw f k o := by
  have h := unl_two hu
  unfold rwA wrapB2
  rw [h.2.2.1]
theorem rchange_any (a : Acc) (old0 pw : ByteArray) (f : Fre) (w : World) (hus : a.user.size ≤ 1000) (hp0 : old0.size ≤ 1000) (hp : pw.size ≤ 1000) :
    Calls Tryz.prog 11 #[a.v, .string old0, .string pw, f.v] w fun e w' => e = .returned (.tuple #[(chgB a old0 pw f).1.v, .int .i64 (chgB a old0 pw f).2]) ∧ Below w.heap.size w w' := by
  unfold chgB
  cases hu : unlB a old0 with
  | err n => exact rchange_err a old0 pw f w hus hp0 n hu (unl_err hu)
  | one k =>
    cases hf : f.rw with
    | false => simp only; rw [if_neg (by simp)]; exact rchange_no_one a old0 pw f w hus hp0 k hu hf
    | true =>
      simp only
      rw [if_pos (by simp), ← rwA_one hu]
      exact rchange_one a old0 pw f w hus hp0 hp k hu hf
  | two k o =>
    cases hf : f.rw with
    | false => simp only; rw [if_neg (by simp)]; exact rchange_no_two a old0 pw f w hus hp0 k o hu hf
    | true =>
      simp only
      rw [if_pos (by simp), ← rwA_two hu]
      exact rchange_two a old0 pw f w hus hp0 hp k o hu hf
end Go.Proofs.YtfckjilhkdlpfaaGreatDoor
