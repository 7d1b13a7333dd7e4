/-
  ring.wrap: the walks.
-/
import Derived.Test.YtfckjilhkdlpfaaGreatDoorRkB
namespace Go.Proofs.YtfckjilhkdlpfaaGreatDoor
open Go.RowKit MS

set_option maxRecDepth 1000000 in
set_option maxHeartbeats 4000000 in
theorem wrap1_any (a : Acc) (pw : ByteArray) (f : Fre) (k : ByteArray) (gk : Nat) (w : World) (G : Glob w) (hw : Wr a f k) (hp : pw.size ≤ 1000) (hg : w.heap[gk]? = some (.cells #[.string k] 9 (0, 0))) :
    Calls Tryz.prog 28 #[a.v, .string pw, f.v, .slice (some ⟨gk, 0, none⟩) 1 1] w fun e w' => e = .returned (.tuple #[(wrapB a pw f k).v, .int .i64 0]) ∧ Below w.heap.size w w' := by
  obtain ⟨hu, hr, he, hk, hx⟩ := hw
  obtain ⟨user, salt, rounds, epoch, pub, nonce, wrapped, old⟩ := a
  obtain ⟨fs, fn, fp, fr⟩ := f
  obtain ⟨q1, q2, q3, q4⟩ := rwB_parts hr
  obtain ⟨u1, u8⟩ := usrB_parts hu
  unfold wrapB Acc.v Fre.v
  simp only at *
  obtain ⟨r, rfl⟩ : ∃ r : Nat, fr = r := ⟨fr.toNat, by omega⟩
  rw [Int.toNat_natCast]
  have hpz : pub.size = 32 := by rw [hx]; exact size_xB _ _
  have P := Lib.hid (fun w G => pass_yes pw fs r w (by omega) (by omega) hp (by omega) G)
  have hkz := size_pwB pw fs r
  generalize pwB pw fs r = key at *
  have hup : (user ++ pub).size ≤ 20000 := by rw [ByteArray.size_append]; omega
  have S := Lib.hid (fun w => aseal_yes key fn (user ++ pub) k w hkz q2 hup (by omega))
  generalize sealA key fn (user ++ pub) k = z at *
  have u8 : (user.size : Int) ≤ 8 := by omega
  have p32 : (pub.size : Int) = 32 := by omega
  have HG := Lib.hid G
  have HK := Lib.hid hg
  clear hu hr he hk hx hkz hup hpz hp hg G q1 q2 q3 q4 u1
  have R0 := Lib.hid (rwAF w user salt rounds epoch pub nonce wrapped old fs fn fp r 23 25 23)
  go_enter Tryz.func28, Tryz.ntmps28
  go_wp2_with fail
  generalize ((w.alloc (.cells #[.string user, .string salt, .int .i64 rounds, .int .i64 epoch, .string pub, .string nonce, .string wrapped, .string old] 23 (0, 0))).alloc (.cells #[.string fs, .string fn, .string fp, .int .i64 r] 25 (0, 0))).alloc (.cells #[.string ⟨#[]⟩, .string ⟨#[]⟩, .int .i64 0, .int .i64 0, .string ⟨#[]⟩, .string ⟨#[]⟩, .string ⟨#[]⟩, .string ⟨#[]⟩] 23 (0, 0)) = W at R0 ⊢
  have c0 := R0.out.cell 1 0 (cs := freA fs fn fp r) (v := .string fs) rfl
  have c1 := R0.out.cell 1 1 (cs := freA fs fn fp r) (v := .string fn) rfl
  have c3 := R0.out.cell 1 3 (cs := freA fs fn fp r) (v := .int .i64 r) rfl
  have d1 := R0.out.cell 0 1 (cs := accA user salt rounds epoch pub nonce wrapped old) (v := .string salt) rfl
  have d2 := R0.out.cell 0 2 (cs := accA user salt rounds epoch pub nonce wrapped old) (v := .int .i64 rounds) rfl
  have d5 := R0.out.cell 0 5 (cs := accA user salt rounds epoch pub nonce wrapped old) (v := .string nonce) rfl
  have d7 := R0.out.cell 0 7 (cs := accA user salt rounds epoch pub nonce wrapped old) (v := .string old) rfl
  have f1 := R0.out.free 0 1
  have f2 := R0.out.free 0 2
  have f5 := R0.out.free 0 5
  have f7 := R0.out.free 0 7
  generalize w.heap.size = ga at *
  generalize hb : ga + 1 = gb at *
  have hne : gb ≠ ga := by omega
  go_region
  have R1 := Lib.hid (acc_put4 R0.out fs fn r).drew
  generalize World.drew _ = w1 at R1 ⊢
  clear c0 c1 c3 d1 d2 d5 d7 f1 f2 f5 f7 R0 W
  have e1 := R1.out.cell 0 1 (cs := accA user fs r epoch pub fn wrapped ⟨#[]⟩) (v := .string fs) rfl
  have e2 := R1.out.cell 0 2 (cs := accA user fs r epoch pub fn wrapped ⟨#[]⟩) (v := .int .i64 r) rfl
  go_wp2_with fail
  have G1 := Lib.hid (HG.out.on R1.out.bel)
  refine (P.out _ G1.out).mono ?_
  rintro e w2 ⟨rfl, hb2⟩
  have R2 := Lib.hid (R1.out.on hb2)
  clear hb2 e1 e2
  go_wp2_with fail
  have RG := Lib.hid (fun p : BW w2 => R2.out.on p.2)
  have e0 := fun p : BW w2 => (RG.out p).cell 0 0 (cs := accA user fs r epoch pub fn wrapped ⟨#[]⟩) (v := .string user) rfl
  have e4 := fun p : BW w2 => (RG.out p).cell 0 4 (cs := accA user fs r epoch pub fn wrapped ⟨#[]⟩) (v := .string pub) rfl
  have e5 := fun p : BW w2 => (RG.out p).cell 0 5 (cs := accA user fs r epoch pub fn wrapped ⟨#[]⟩) (v := .string fn) rfl
  have ek := fun p : BW w2 => cell_of_row p.1 gk 0 #[.string k] 9 (0, 0) ((RG.out p).old HK.out)
  simp only [List.getElem?_toArray, List.getElem?_cons_zero] at ek
  refine wp_region_any (by kernel_rfl) ?_
  change wpAny _ _ _ _ _ _ _ (World.drew _)
  refine wpAny_quiet_mid (fun w' => ∃ p : BW w2, w' = p.1) #[true, true, true, true, true, true, true, true, true, true, true, true, true, false, false, false, false, false] 0 13 5 (by kernel_rfl) (by kernel_rfl) (by kernel_rfl) (by kernel_rfl) rfl ⟨⟨w2.drew, (Below.refl _ _).drew⟩, rfl⟩ ?_
  simp only [List.take_succ_cons, List.take_zero, List.drop_zero]
  repeat (go_big_quiet_step (exact calls_below (S.out _)))
  refine wpQuiet_nil ?_
  rintro _ ⟨p, rfl⟩
  have R3 := Lib.hid (RG.out p)
  generalize p.1 = w3 at R3 ⊢
  refine wpAny_take_at (i := 13) (d := 48) (v := .string z) rfl (by kernel_rfl) (by kernel_rfl) (by kernel_rfl) (fun _ _ _ h => h) rfl (Or.inl ⟨by rfl, by intro w; go_simp⟩) ?_
  simp only [Act.put, List.setIfInBounds_toArray, List.set_cons_zero, List.set_cons_succ]
  refine wpAny_take_at (i := 14) (d := 49) (v := .int .i64 0) rfl (by kernel_rfl) (by kernel_rfl) (by kernel_rfl) (fun _ _ _ h => h) rfl (Or.inl ⟨by rfl, by intro w; go_simp⟩) ?_
  simp only [Act.put, List.setIfInBounds_toArray, List.set_cons_zero, List.set_cons_succ]
  refine wpAny_tail 15 3 (by kernel_rfl) rfl ?_
  simp only [List.drop_succ_cons, List.drop_zero]
  clear e0 e4 e5 ek RG
  have d6 := R3.out.cell 0 6 (cs := accA user fs r epoch pub fn wrapped ⟨#[]⟩) (v := .string wrapped) rfl
  have f6 := R3.out.free 0 6
  have R4 := Lib.hid (acc_put6 R3.out z)
  have IA := Lib.hid (infoAcc user fs r epoch pub fn z ⟨#[]⟩)
  have OA := Lib.hid (one_accA user fs r epoch pub fn z ⟨#[]⟩)
  go_upto_region 6 with fail
  generalize World.setCell w3 _ _ = w4 at R4 ⊢
  have R5 := Lib.hid (R4.out.store 2 (accA user fs r epoch pub fn z ⟨#[]⟩))
  have RA := Lib.hid (R4.out.row 0)
  have RB := Lib.hid (R4.out.row 2)
  clear d6 f6 R3
  go_wp2_with (first
    | (with_reducible refine wpList_load_row rfl 23 (.tmp 4) rfl ga rfl 23 (accA user fs r epoch pub fn z ⟨#[]⟩) (0, 0) _ RA.out Tryz.underlying23 rfl IA.out ?_)
    | (with_reducible refine wpList_store_row rfl 23 (.tmp 8) (.tmp 58) rfl (gb + 1) (accA user fs r epoch pub fn z ⟨#[]⟩) rfl rfl 23 (accA ⟨#[]⟩ ⟨#[]⟩ 0 0 ⟨#[]⟩ ⟨#[]⟩ ⟨#[]⟩ ⟨#[]⟩) RB.out IA.out rfl OA.out ?_))
  exact bodyPost_ret (results_row_slot rfl _ _ (gb + 1) 23 (accA user fs r epoch pub fn z ⟨#[]⟩) (0, 0) _ (.int .i64 0) rfl rfl (R5.out.row 2) Tryz.underlying23 rfl IA.out) rfl ⟨rfl, R5.out.bel⟩

set_option maxRecDepth 1000000 in
set_option maxHeartbeats 4000000 in
theorem wrap2_any (a : Acc) (pw : ByteArray) (f : Fre) (k o : ByteArray) (gk : Nat) (w : World) (G : Glob w) (hw : Wr a f k) (ho : o.size = 32) (hp : pw.size ≤ 1000) (hg : w.heap[gk]? = some (.cells #[.string k, .string o] 9 (0, 0))) :
    Calls Tryz.prog 28 #[a.v, .string pw, f.v, .slice (some ⟨gk, 0, none⟩) 2 2] w fun e w' => e = .returned (.tuple #[(wrapB2 a pw f k o).v, .int .i64 0]) ∧ Below w.heap.size w w' := by
  obtain ⟨hu, hr, he, hk, hx⟩ := hw
  obtain ⟨user, salt, rounds, epoch, pub, nonce, wrapped, old⟩ := a
  obtain ⟨fs, fn, fp, fr⟩ := f
  obtain ⟨q1, q2, q3, q4⟩ := rwB_parts hr
  obtain ⟨u1, u8⟩ := usrB_parts hu
  unfold wrapB2 Acc.v Fre.v
  simp only at *
  obtain ⟨r, rfl⟩ : ∃ r : Nat, fr = r := ⟨fr.toNat, by omega⟩
  rw [Int.toNat_natCast]
  have hpz : pub.size = 32 := by rw [hx]; exact size_xB _ _
  have P := Lib.hid (fun w G => pass_yes pw fs r w (by omega) (by omega) hp (by omega) G)
  have hkz := size_pwB pw fs r
  generalize pwB pw fs r = key at *
  have hup : (user ++ pub).size ≤ 20000 := by rw [ByteArray.size_append]; omega
  have S := Lib.hid (fun w => aseal_yes key fn (user ++ pub) k w hkz q2 hup (by omega))
  generalize sealA key fn (user ++ pub) k = z at *
  have OK := Lib.hid (fun w G => oldKey_any k w (by omega) G)
  have S2 := Lib.hid (fun w => aseal_yes (undB k) fn pub o w (size_undB k) q2 (by omega) (by omega))
  generalize sealA (undB k) fn pub o = y at *
  generalize undB k = key2 at *
  have u8 : (user.size : Int) ≤ 8 := by omega
  have p32 : (pub.size : Int) = 32 := by omega
  have HG := Lib.hid G
  have HK := Lib.hid hg
  clear ho hu hr he hk hx hkz hup hpz hp hg G q1 q2 q3 q4 u1
  have R0 := Lib.hid (rwAF w user salt rounds epoch pub nonce wrapped old fs fn fp r 23 25 23)
  go_enter Tryz.func28, Tryz.ntmps28
  go_wp2_with fail
  generalize ((w.alloc (.cells #[.string user, .string salt, .int .i64 rounds, .int .i64 epoch, .string pub, .string nonce, .string wrapped, .string old] 23 (0, 0))).alloc (.cells #[.string fs, .string fn, .string fp, .int .i64 r] 25 (0, 0))).alloc (.cells #[.string ⟨#[]⟩, .string ⟨#[]⟩, .int .i64 0, .int .i64 0, .string ⟨#[]⟩, .string ⟨#[]⟩, .string ⟨#[]⟩, .string ⟨#[]⟩] 23 (0, 0)) = W at R0 ⊢
  have c0 := R0.out.cell 1 0 (cs := freA fs fn fp r) (v := .string fs) rfl
  have c1 := R0.out.cell 1 1 (cs := freA fs fn fp r) (v := .string fn) rfl
  have c3 := R0.out.cell 1 3 (cs := freA fs fn fp r) (v := .int .i64 r) rfl
  have d1 := R0.out.cell 0 1 (cs := accA user salt rounds epoch pub nonce wrapped old) (v := .string salt) rfl
  have d2 := R0.out.cell 0 2 (cs := accA user salt rounds epoch pub nonce wrapped old) (v := .int .i64 rounds) rfl
  have d5 := R0.out.cell 0 5 (cs := accA user salt rounds epoch pub nonce wrapped old) (v := .string nonce) rfl
  have d7 := R0.out.cell 0 7 (cs := accA user salt rounds epoch pub nonce wrapped old) (v := .string old) rfl
  have f1 := R0.out.free 0 1
  have f2 := R0.out.free 0 2
  have f5 := R0.out.free 0 5
  have f7 := R0.out.free 0 7
  generalize w.heap.size = ga at *
  generalize hb : ga + 1 = gb at *
  have hne : gb ≠ ga := by omega
  go_region
  have R1 := Lib.hid (acc_put4 R0.out fs fn r).drew
  generalize World.drew _ = w1 at R1 ⊢
  clear c0 c1 c3 d1 d2 d5 d7 f1 f2 f5 f7 R0 W
  have e1 := R1.out.cell 0 1 (cs := accA user fs r epoch pub fn wrapped ⟨#[]⟩) (v := .string fs) rfl
  have e2 := R1.out.cell 0 2 (cs := accA user fs r epoch pub fn wrapped ⟨#[]⟩) (v := .int .i64 r) rfl
  go_wp2_with fail
  have G1 := Lib.hid (HG.out.on R1.out.bel)
  refine (P.out _ G1.out).mono ?_
  rintro e w2 ⟨rfl, hb2⟩
  have R2 := Lib.hid (R1.out.on hb2)
  clear hb2 e1 e2
  go_wp2_with fail
  have RG := Lib.hid (fun p : BW w2 => R2.out.on p.2)
  have e0 := fun p : BW w2 => (RG.out p).cell 0 0 (cs := accA user fs r epoch pub fn wrapped ⟨#[]⟩) (v := .string user) rfl
  have e4 := fun p : BW w2 => (RG.out p).cell 0 4 (cs := accA user fs r epoch pub fn wrapped ⟨#[]⟩) (v := .string pub) rfl
  have e5 := fun p : BW w2 => (RG.out p).cell 0 5 (cs := accA user fs r epoch pub fn wrapped ⟨#[]⟩) (v := .string fn) rfl
  have ek := fun p : BW w2 => cell_of_row p.1 gk 0 #[.string k, .string o] 9 (0, 0) ((RG.out p).old HK.out)
  simp only [List.getElem?_toArray, List.getElem?_cons_zero] at ek
  refine wp_region_any (by kernel_rfl) ?_
  change wpAny _ _ _ _ _ _ _ (World.drew _)
  refine wpAny_quiet_mid (fun w' => ∃ p : BW w2, w' = p.1) #[true, true, true, true, true, true, true, true, true, true, true, true, true, false, false, false, false, false] 0 13 5 (by kernel_rfl) (by kernel_rfl) (by kernel_rfl) (by kernel_rfl) rfl ⟨⟨w2.drew, (Below.refl _ _).drew⟩, rfl⟩ ?_
  simp only [List.take_succ_cons, List.take_zero, List.drop_zero]
  repeat (go_big_quiet_step (exact calls_below (S.out _)))
  refine wpQuiet_nil ?_
  rintro _ ⟨p, rfl⟩
  have R3 := Lib.hid (RG.out p)
  generalize p.1 = w3 at R3 ⊢
  refine wpAny_take_at (i := 13) (d := 48) (v := .string z) rfl (by kernel_rfl) (by kernel_rfl) (by kernel_rfl) (fun _ _ _ h => h) rfl (Or.inl ⟨by rfl, by intro w; go_simp⟩) ?_
  simp only [Act.put, List.setIfInBounds_toArray, List.set_cons_zero, List.set_cons_succ]
  refine wpAny_take_at (i := 14) (d := 49) (v := .int .i64 0) rfl (by kernel_rfl) (by kernel_rfl) (by kernel_rfl) (fun _ _ _ h => h) rfl (Or.inl ⟨by rfl, by intro w; go_simp⟩) ?_
  simp only [Act.put, List.setIfInBounds_toArray, List.set_cons_zero, List.set_cons_succ]
  refine wpAny_tail 15 3 (by kernel_rfl) rfl ?_
  simp only [List.drop_succ_cons, List.drop_zero]
  clear e0 e4 e5 ek RG
  have d6 := R3.out.cell 0 6 (cs := accA user fs r epoch pub fn wrapped ⟨#[]⟩) (v := .string wrapped) rfl
  have f6 := R3.out.free 0 6
  have R4 := Lib.hid (acc_put6 R3.out z)
  go_upto_region 6 with fail
  generalize World.setCell w3 _ _ = w4 at R4 ⊢
  clear d6 f6 R3
  have G4 := Lib.hid (HG.out.on R4.out.bel)
  have ek4 := cell_of_row w4 gk 0 #[.string k, .string o] 9 (0, 0) (R4.out.old HK.out)
  simp only [List.getElem?_toArray, List.getElem?_cons_zero] at ek4
  go_wp2_with fail
  refine (OK.out _ G4.out).mono ?_
  rintro e w5 ⟨rfl, hb5⟩
  have R5 := Lib.hid (R4.out.on hb5)
  clear hb5 ek4
  go_wp2_with fail
  have RG := Lib.hid (fun p : BW w5 => R5.out.on p.2)
  have e4 := fun p : BW w5 => (RG.out p).cell 0 4 (cs := accA user fs r epoch pub fn z ⟨#[]⟩) (v := .string pub) rfl
  have e5 := fun p : BW w5 => (RG.out p).cell 0 5 (cs := accA user fs r epoch pub fn z ⟨#[]⟩) (v := .string fn) rfl
  have ek := fun p : BW w5 => cell_of_row p.1 gk 1 #[.string k, .string o] 9 (0, 0) ((RG.out p).old HK.out)
  simp only [List.getElem?_toArray, List.getElem?_cons_zero, List.getElem?_cons_succ] at ek
  refine wp_region_any (by kernel_rfl) ?_
  change wpAny _ _ _ _ _ _ _ (World.drew _)
  refine wpAny_quiet_mid (fun w' => ∃ p : BW w5, w' = p.1) #[true, true, true, true, true, true, true, true, true, true, false, false, false, false, false] 0 10 5 (by kernel_rfl) (by kernel_rfl) (by kernel_rfl) (by kernel_rfl) rfl ⟨⟨w5.drew, (Below.refl _ _).drew⟩, rfl⟩ ?_
  simp only [List.take_succ_cons, List.take_zero, List.drop_zero]
  repeat (go_big_quiet_step (exact calls_below (S2.out _)))
  refine wpQuiet_nil ?_
  rintro _ ⟨p, rfl⟩
  have R6 := Lib.hid (RG.out p)
  generalize p.1 = w6 at R6 ⊢
  refine wpAny_take_at (i := 10) (d := 80) (v := .string y) rfl (by kernel_rfl) (by kernel_rfl) (by kernel_rfl) (fun _ _ _ h => h) rfl (Or.inl ⟨by rfl, by intro w; go_simp⟩) ?_
  simp only [Act.put, List.setIfInBounds_toArray, List.set_cons_zero, List.set_cons_succ]
  refine wpAny_take_at (i := 11) (d := 81) (v := .int .i64 0) rfl (by kernel_rfl) (by kernel_rfl) (by kernel_rfl) (fun _ _ _ h => h) rfl (Or.inl ⟨by rfl, by intro w; go_simp⟩) ?_
  simp only [Act.put, List.setIfInBounds_toArray, List.set_cons_zero, List.set_cons_succ]
  refine wpAny_tail 12 3 (by kernel_rfl) rfl ?_
  simp only [List.drop_succ_cons, List.drop_zero]
  clear e4 e5 ek RG
  have d7 := R6.out.cell 0 7 (cs := accA user fs r epoch pub fn z ⟨#[]⟩) (v := .string ⟨#[]⟩) rfl
  have f7 := R6.out.free 0 7
  have R7 := Lib.hid (acc_put7 R6.out y)
  have IA := Lib.hid (infoAcc user fs r epoch pub fn z y)
  have OA := Lib.hid (one_accA user fs r epoch pub fn z y)
  go_upto_region 14 with fail
  generalize World.setCell w6 _ _ = w7 at R7 ⊢
  have R8 := Lib.hid (R7.out.store 2 (accA user fs r epoch pub fn z y))
  have RA := Lib.hid (R7.out.row 0)
  have RB := Lib.hid (R7.out.row 2)
  clear d7 f7 R6
  go_wp2_with (first
    | (with_reducible refine wpList_load_row rfl 23 (.tmp 4) rfl ga rfl 23 (accA user fs r epoch pub fn z y) (0, 0) _ RA.out Tryz.underlying23 rfl IA.out ?_)
    | (with_reducible refine wpList_store_row rfl 23 (.tmp 8) (.tmp 87) rfl (gb + 1) (accA user fs r epoch pub fn z y) rfl rfl 23 (accA ⟨#[]⟩ ⟨#[]⟩ 0 0 ⟨#[]⟩ ⟨#[]⟩ ⟨#[]⟩ ⟨#[]⟩) RB.out IA.out rfl OA.out ?_))
  exact bodyPost_ret (results_row_slot rfl _ _ (gb + 1) 23 (accA user fs r epoch pub fn z y) (0, 0) _ (.int .i64 0) rfl rfl (R8.out.row 2) Tryz.underlying23 rfl IA.out) rfl ⟨rfl, R8.out.bel⟩
end Go.Proofs.YtfckjilhkdlpfaaGreatDoor
