/-
  mailsackref13.wrap, mailsackref13.Make: the walks.
-/
import Derived.Test.YtfckjilhkdlpfaaGreatDoorRqA
namespace Go.Proofs.YtfckjilhkdlpfaaGreatDoor
open Go.RowKit MS

section
variable {w0 W : World} {l : List Blk} {ga TA : Nat} {user salt : ByteArray} {rounds epoch : Int} {pub nonce wrapped old : ByteArray}
theorem acc_st1 (R : Rw w0 ((ga, accA user salt rounds epoch pub nonce wrapped old, TA) :: l) W) (z : ByteArray) : Rw w0 ((ga, accA user z rounds epoch pub nonce wrapped old, TA) :: l) (W.setCell ⟨ga, 1, none⟩ (.string z)) := by
  have h1 := R.put 0 1 (.string z)
  exact h1
theorem acc_st2 (R : Rw w0 ((ga, accA user salt rounds epoch pub nonce wrapped old, TA) :: l) W) (z : Int) : Rw w0 ((ga, accA user salt z epoch pub nonce wrapped old, TA) :: l) (W.setCell ⟨ga, 2, none⟩ (.int .i64 z)) := by
  have h1 := R.put 0 2 (.int .i64 z)
  exact h1
theorem acc_st4 (R : Rw w0 ((ga, accA user salt rounds epoch pub nonce wrapped old, TA) :: l) W) (z : ByteArray) : Rw w0 ((ga, accA user salt rounds epoch z nonce wrapped old, TA) :: l) (W.setCell ⟨ga, 4, none⟩ (.string z)) := by
  have h1 := R.put 0 4 (.string z)
  exact h1
theorem acc_st5 (R : Rw w0 ((ga, accA user salt rounds epoch pub nonce wrapped old, TA) :: l) W) (z : ByteArray) : Rw w0 ((ga, accA user salt rounds epoch pub z wrapped old, TA) :: l) (W.setCell ⟨ga, 5, none⟩ (.string z)) := by
  have h1 := R.put 0 5 (.string z)
  exact h1
end
/-- What the document's wrap makes. -/
def rwA (a : Acc) (pw : ByteArray) (f : Fre) : Acc :=
  ⟨a.user, f.salt, f.rounds, a.epoch, xB f.priv baseB, f.nonce, sealA (pwB pw f.salt f.rounds.toNat) f.nonce (a.user ++ xB f.priv baseB) f.priv, a.old⟩
set_option maxRecDepth 1000000 in
set_option maxHeartbeats 4000000 in
theorem rwrap_noC (user salt : ByteArray) (rounds epoch : Int) (pub nonce wrapped old pw fs fn fp : ByteArray) (fr : Int) (w : World) (hus : user.size ≤ 1000)
    (h : usrB user = false ∨ (usrB user = true ∧ ((fs.size : Int) != 16) = true) ∨ (usrB user = true ∧ ((fs.size : Int) != 16) = false ∧ ((fn.size : Int) != 12) = true) ∨ (usrB user = true ∧ ((fs.size : Int) != 16) = false ∧ ((fn.size : Int) != 12) = false ∧ ((fp.size : Int) != 32) = true) ∨
      (usrB user = true ∧ ((fs.size : Int) != 16) = false ∧ ((fn.size : Int) != 12) = false ∧ ((fp.size : Int) != 32) = false ∧ fr < 1) ∨ (usrB user = true ∧ ((fs.size : Int) != 16) = false ∧ ((fn.size : Int) != 12) = false ∧ ((fp.size : Int) != 32) = false ∧ ¬ fr < 1 ∧ fr > 64)) :
    Calls Tryz.prog 31 #[.agg #[.string user, .string salt, .int .i64 rounds, .int .i64 epoch, .string pub, .string nonce, .string wrapped, .string old], .string pw, .agg #[.string fs, .string fn, .string fp, .int .i64 fr]] w fun e w' => e = .returned (.tuple #[noAcc.v, .bool false]) ∧ Below w.heap.size w w' := by
  have U := Lib.hid (fun w => refUser_any user hus w)
  have R0 := Lib.hid (rwAF w user salt rounds epoch pub nonce wrapped old fs fn fp fr 32 36 32)
  have IA := Lib.hid (infoRA ⟨#[]⟩ ⟨#[]⟩ 0 0 ⟨#[]⟩ ⟨#[]⟩ ⟨#[]⟩ ⟨#[]⟩)
  rcases h with hu | ⟨hu, t1⟩ | ⟨hu, t1, t2⟩ | ⟨hu, t1, t2, t3⟩ | ⟨hu, t1, t2, t3, t4⟩ | ⟨hu, t1, t2, t3, t4, t5⟩
  all_goals
    rw [hu] at U
    clear hu
    go_enter Tryz.func31, Tryz.ntmps31
    go_upto_region 1 with fail
    generalize ((w.alloc (.cells #[.string user, .string salt, .int .i64 rounds, .int .i64 epoch, .string pub, .string nonce, .string wrapped, .string old] 32 (0, 0))).alloc (.cells #[.string fs, .string fn, .string fp, .int .i64 fr] 36 (0, 0))).alloc _ = W at R0 ⊢
    generalize w.heap.size = ga at *
    generalize hgb : ga + 1 = gb at *
    have c0 := R0.out.cell 0 0 (cs := accA user salt rounds epoch pub nonce wrapped old) (v := .string user) rfl
    obtain ⟨d0, d1, d2, d3⟩ := fre_cells R0.out 1 rfl
    go_wp2_with fail
    refine (U.out _).mono ?_
    rintro e w1 ⟨rfl, rfl⟩
    have R1 := Lib.hid (R0.out.store 2 (accA ⟨#[]⟩ ⟨#[]⟩ 0 0 ⟨#[]⟩ ⟨#[]⟩ ⟨#[]⟩ ⟨#[]⟩))
    have RB := Lib.hid (R0.out.row 2)
    go_wp2_with (with_reducible refine wpList_store_row rfl 32 (.tmp 6) (.tmp 41) rfl (gb + 1) (accA ⟨#[]⟩ ⟨#[]⟩ 0 0 ⟨#[]⟩ ⟨#[]⟩ ⟨#[]⟩ ⟨#[]⟩) rfl rfl 32 (accA ⟨#[]⟩ ⟨#[]⟩ 0 0 ⟨#[]⟩ ⟨#[]⟩ ⟨#[]⟩ ⟨#[]⟩) RB.out IA.out rfl (one_accA _ _ _ _ _ _ _ _) ?_)
    exact bodyPost_ret (results_row_slot rfl _ _ (gb + 1) 32 (accA ⟨#[]⟩ ⟨#[]⟩ 0 0 ⟨#[]⟩ ⟨#[]⟩ ⟨#[]⟩ ⟨#[]⟩) (0, 0) _ (.bool false) rfl rfl (R1.out.row 2) Tryz.underlying32 rfl IA.out) rfl ⟨rfl, R1.out.bel⟩
theorem rwrap_no (a : Acc) (pw : ByteArray) (f : Fre) (w : World) (hus : a.user.size ≤ 1000) (h : ¬ (usrB a.user = true ∧ f.ok = true)) :
    Calls Tryz.prog 31 #[a.v, .string pw, f.v] w fun e w' => e = .returned (.tuple #[noAcc.v, .bool false]) ∧ Below w.heap.size w w' := by
  obtain ⟨user, salt, rounds, epoch, pub, nonce, wrapped, old⟩ := a
  obtain ⟨fs, fn, fp, fr⟩ := f
  simp only at hus h
  refine rwrap_noC user salt rounds epoch pub nonce wrapped old pw fs fn fp fr w hus ?_
  have ne : ∀ {a b : Nat}, a ≠ b → ((a : Int) != b) = true := fun h => bne_iff_ne.2 (by omega)
  have eq : ∀ {a b : Nat}, a = b → ((a : Int) != b) = false := fun h => by simp [h]
  cases hu : usrB user with
  | false => exact .inl rfl
  | true =>
    refine .inr ?_
    by_cases h1 : fs.size = 16
    · refine .inr ?_
      by_cases h2 : fn.size = 12
      · refine .inr ?_
        by_cases h3 : fp.size = 32
        · refine .inr ?_
          by_cases h4 : fr < 1
          · exact .inl ⟨rfl, eq h1, eq h2, eq h3, h4⟩
          · by_cases h5 : fr > 64
            · exact .inr ⟨rfl, eq h1, eq h2, eq h3, h4, h5⟩
            · exact absurd ⟨rfl, by
                have e4 : decide (1 ≤ fr) = true := decide_eq_true (by omega)
                have e5 : decide (fr ≤ 64) = true := decide_eq_true (by omega)
                unfold Fre.ok Fre.rw rwB
                simp only [h1, h2, h3, e4, e5]
                rfl⟩ (hu ▸ h)
        · exact .inl ⟨rfl, eq h1, eq h2, ne h3⟩
      · exact .inl ⟨rfl, eq h1, ne h2⟩
    · exact .inl ⟨rfl, ne h1⟩
set_option maxRecDepth 1000000 in
set_option maxHeartbeats 4000000 in
theorem rwrap_yes (a : Acc) (pw : ByteArray) (f : Fre) (w : World) (hp : pw.size ≤ 1000) (hu : usrB a.user = true) (hf : f.ok = true) :
    Calls Tryz.prog 31 #[a.v, .string pw, f.v] w fun e w' => e = .returned (.tuple #[(rwA a pw f).v, .bool true]) ∧ Below w.heap.size w w' := by
  have hr := fre_rw hf
  have h3 := fre_priv hf
  obtain ⟨user, salt, rounds, epoch, pub, nonce, wrapped, old⟩ := a
  obtain ⟨fs, fn, fp, fr⟩ := f
  obtain ⟨q1, q2, q3, q4⟩ := rwB_parts hr
  obtain ⟨u1, u8⟩ := usrB_parts hu
  unfold rwA Acc.v Fre.v
  simp only at *
  have U := Lib.hid (fun w => refUser_any user (by omega) w)
  rw [hu] at U
  obtain ⟨r, rfl⟩ : ∃ r : Nat, fr = r := ⟨fr.toNat, by omega⟩
  rw [Int.toNat_natCast]
  have P := Lib.hid (fun w => rpw_any pw fs r w (by omega) (by omega) hp (by omega))
  have PB := Lib.hid (fun w => rpublic_any fp w h3)
  have hx := size_xB fp baseB
  generalize xB fp baseB = x at *
  have hkz := size_pwB pw fs r
  generalize pwB pw fs r = key at *
  have hux : (user ++ x).size ≤ 10000 := by rw [ByteArray.size_append]; omega
  have S := Lib.hid (fun w => rsealA_any key fn (user ++ x) fp w hkz q2 hux (by omega))
  generalize sealA key fn (user ++ x) fp = z at *
  have t1 : ((fs.size : Int) != 16) = false := by simp; omega
  have t2 : ((fn.size : Int) != 12) = false := by simp; omega
  have t3 : ((fp.size : Int) != 32) = false := by simp; omega
  have t4 : ¬ ((r : Int) < 1) := by omega
  have t5 : ¬ ((r : Int) > 64) := by omega
  have v8 : (user.size : Int) ≤ 8 := by omega
  have x32 : (x.size : Int) = 32 := by omega
  have R0 := Lib.hid (rwAF w user salt rounds epoch pub nonce wrapped old fs fn fp r 32 36 32)
  have IA := Lib.hid (infoRA user fs r epoch x fn z old)
  clear hr h3 q1 q2 q3 q4 u1 u8 hu hx hkz hux hf hp
  go_enter Tryz.func31, Tryz.ntmps31
  go_upto_region 1 with fail
  generalize ((w.alloc (.cells #[.string user, .string salt, .int .i64 rounds, .int .i64 epoch, .string pub, .string nonce, .string wrapped, .string old] 32 (0, 0))).alloc (.cells #[.string fs, .string fn, .string fp, .int .i64 (r : Int)] 36 (0, 0))).alloc _ = W at R0 ⊢
  generalize w.heap.size = ga at *
  generalize hgb : ga + 1 = gb at *
  have hne : gb ≠ ga := by omega
  have c0 := R0.out.cell 0 0 (cs := accA user salt rounds epoch pub nonce wrapped old) (v := .string user) rfl
  obtain ⟨d0, d1, d2, d3⟩ := fre_cells R0.out 1 rfl
  go_wp2_with fail
  refine (U.out _).mono ?_
  rintro e w1 ⟨rfl, rfl⟩
  go_wp2_with fail
  refine (P.out _).mono ?_
  rintro e w2 ⟨rfl, hb⟩
  have R2 := Lib.hid (R0.out.on hb)
  clear hb c0 d0 d1 d2 d3 R0 U P
  go_upto_region 4 with fail
  have R3 := Lib.hid R2.out.drew
  refine wp_region_held (S := fun w' => w'.heap[gb]? = some (.cells (freA fs fn fp r) 36 (0, 0))) (by kernel_rfl) ?_
  change wpAnyH _ _ _ _ _ _ _ _ (World.drew _)
  generalize w2.drew = w3 at R3 ⊢
  clear R2
  have hS := R3.out.row 1
  have CF := Lib.hid (fun (w9 : World) (h9 : w9.heap[gb]? = some (.cells (freA fs fn fp r) 36 (0, 0))) (k : Nat) => cell_of_row w9 gb k _ _ _ h9)
  refine wpAnyH_take_at (i := 0) (d := 48) (v := .pointer (some ⟨gb, 0, none⟩)) rfl (by kernel_rfl) (by kernel_rfl) (by kernel_rfl) (fun _ _ _ h => h) rfl (Or.inl ⟨by rfl, by intro w9 _; go_simp⟩) hS ?_
  simp only [Act.put, List.setIfInBounds_toArray, List.set_cons_zero, List.set_cons_succ]
  refine wpAnyH_take_at (i := 1) (d := 49) (v := .string fs) rfl (by kernel_rfl) (by kernel_rfl) (by kernel_rfl) (fun _ _ _ h => h) rfl (Or.inl ⟨by rfl, by intro w9 h9; have h8 := CF.out w9 h9 0; rw [show (freA fs fn fp r)[0]? = some (.string fs) from rfl] at h8; go_simp⟩) hS ?_
  simp only [Act.put, List.setIfInBounds_toArray, List.set_cons_zero, List.set_cons_succ]
  refine wpAnyH_take_at (i := 2) (d := 50) (v := .pointer (some ⟨gb, 3, none⟩)) rfl (by kernel_rfl) (by kernel_rfl) (by kernel_rfl) (fun _ _ _ h => h) rfl (Or.inl ⟨by rfl, by intro w9 _; go_simp⟩) hS ?_
  simp only [Act.put, List.setIfInBounds_toArray, List.set_cons_zero, List.set_cons_succ]
  refine wpAnyH_take_at (i := 3) (d := 51) (v := .int .i64 r) rfl (by kernel_rfl) (by kernel_rfl) (by kernel_rfl) (fun _ _ _ h => h) rfl (Or.inl ⟨by rfl, by intro w9 h9; have h8 := CF.out w9 h9 3; rw [show (freA fs fn fp r)[3]? = some (.int .i64 r) from rfl] at h8; go_simp⟩) hS ?_
  simp only [Act.put, List.setIfInBounds_toArray, List.set_cons_zero, List.set_cons_succ]
  refine wpAnyH_take_at (i := 4) (d := 52) (v := .pointer (some ⟨gb, 2, none⟩)) rfl (by kernel_rfl) (by kernel_rfl) (by kernel_rfl) (fun _ _ _ h => h) rfl (Or.inl ⟨by rfl, by intro w9 _; go_simp⟩) hS ?_
  simp only [Act.put, List.setIfInBounds_toArray, List.set_cons_zero, List.set_cons_succ]
  refine wpAnyH_take_at (i := 5) (d := 53) (v := .string fp) rfl (by kernel_rfl) (by kernel_rfl) (by kernel_rfl) (fun _ _ _ h => h) rfl (Or.inl ⟨by rfl, by intro w9 h9; have h8 := CF.out w9 h9 2; rw [show (freA fs fn fp r)[2]? = some (.string fp) from rfl] at h8; go_simp⟩) hS ?_
  simp only [Act.put, List.setIfInBounds_toArray, List.set_cons_zero, List.set_cons_succ]
  refine wpAnyH_take_at (i := 7) (d := 55) (v := .pointer (some ⟨gb, 1, none⟩)) rfl (by kernel_rfl) (by kernel_rfl) (by kernel_rfl) (fun _ _ _ h => h) rfl (Or.inl ⟨by rfl, by intro w9 _; go_simp⟩) hS ?_
  simp only [Act.put, List.setIfInBounds_toArray, List.set_cons_zero, List.set_cons_succ]
  refine wpAnyH_take_at (i := 8) (d := 56) (v := .string fn) rfl (by kernel_rfl) (by kernel_rfl) (by kernel_rfl) (fun _ _ _ h => h) rfl (Or.inl ⟨by rfl, by intro w9 h9; have h8 := CF.out w9 h9 1; rw [show (freA fs fn fp r)[1]? = some (.string fn) from rfl] at h8; go_simp⟩) hS ?_
  simp only [Act.put, List.setIfInBounds_toArray, List.set_cons_zero, List.set_cons_succ]
  refine wpAnyH_take_at (i := 9) (d := 57) (v := .pointer (some ⟨ga, 1, none⟩)) rfl (by kernel_rfl) (by kernel_rfl) (by kernel_rfl) (fun _ _ _ h => h) rfl (Or.inl ⟨by rfl, by intro w9 _; go_simp⟩) hS ?_
  simp only [Act.put, List.setIfInBounds_toArray, List.set_cons_zero, List.set_cons_succ]
  refine wpAnyH_all (rs := [6]) (by kernel_rfl) (by simp) (List.forall_mem_singleton.2 ?_)
  refine wpOp_call (d := 54) (f := 42) (args := #[.string fp]) rfl (by rfl) rfl (by go_simp) ?_
  refine (PB.out _).mono ?_
  rintro e w4 ⟨rfl, hb⟩
  have R4 := Lib.hid (R3.out.on hb)
  have hS4 := R4.out.row 1
  refine ⟨_, rfl, hS4, ?_⟩
  simp only [Act.put, List.setIfInBounds_toArray, List.set_cons_zero, List.set_cons_succ]
  clear hS hb R3
  have q1 := R4.out.cell 0 1 (cs := accA user salt rounds epoch pub nonce wrapped old) (v := .string salt) rfl
  have f1 := R4.out.free 0 1
  have R5 := Lib.hid (acc_st1 R4.out fs)
  have hS5 := R5.out.row 1
  refine wpAnyH_all (rs := [10]) (by kernel_rfl) (by simp) (List.forall_mem_singleton.2 ?_)
  refine wpOp_mk0 (w2 := w4.setCell ⟨ga, 1, none⟩ (.string fs)) rfl (by rfl) rfl (by go_simp) ⟨hS5, ?_⟩
  clear q1 f1 R4
  generalize w4.setCell ⟨ga, 1, none⟩ (.string fs) = w5 at *
  refine wpAnyH_take_at (i := 11) (d := 58) (v := .pointer (some ⟨ga, 2, none⟩)) rfl (by kernel_rfl) (by kernel_rfl) (by kernel_rfl) (fun _ _ _ h => h) rfl (Or.inl ⟨by rfl, by intro w9 _; go_simp⟩) hS5 ?_
  simp only [Act.put, List.setIfInBounds_toArray, List.set_cons_zero, List.set_cons_succ]
  have q2 := R5.out.cell 0 2 (cs := accA user fs rounds epoch pub nonce wrapped old) (v := .int .i64 rounds) rfl
  have f2 := R5.out.free 0 2
  have R6 := Lib.hid (acc_st2 R5.out r)
  have hS6 := R6.out.row 1
  refine wpAnyH_all (rs := [12]) (by kernel_rfl) (by simp) (List.forall_mem_singleton.2 ?_)
  refine wpOp_mk0 (w2 := w5.setCell ⟨ga, 2, none⟩ (.int .i64 r)) rfl (by rfl) rfl (by go_simp) ⟨hS6, ?_⟩
  clear q2 f2 R5
  generalize w5.setCell ⟨ga, 2, none⟩ (.int .i64 r) = w6 at *
  refine wpAnyH_take_at (i := 13) (d := 59) (v := .pointer (some ⟨ga, 4, none⟩)) rfl (by kernel_rfl) (by kernel_rfl) (by kernel_rfl) (fun _ _ _ h => h) rfl (Or.inl ⟨by rfl, by intro w9 _; go_simp⟩) hS6 ?_
  simp only [Act.put, List.setIfInBounds_toArray, List.set_cons_zero, List.set_cons_succ]
  have q4 := R6.out.cell 0 4 (cs := accA user fs r epoch pub nonce wrapped old) (v := .string pub) rfl
  have f4 := R6.out.free 0 4
  have R7 := Lib.hid (acc_st4 R6.out x)
  have hS7 := R7.out.row 1
  refine wpAnyH_all (rs := [14]) (by kernel_rfl) (by simp) (List.forall_mem_singleton.2 ?_)
  refine wpOp_mk0 (w2 := w6.setCell ⟨ga, 4, none⟩ (.string x)) rfl (by rfl) rfl (by go_simp) ⟨hS7, ?_⟩
  clear q4 f4 R6
  generalize w6.setCell ⟨ga, 4, none⟩ (.string x) = w7 at *
  refine wpAnyH_take_at (i := 15) (d := 60) (v := .pointer (some ⟨ga, 5, none⟩)) rfl (by kernel_rfl) (by kernel_rfl) (by kernel_rfl) (fun _ _ _ h => h) rfl (Or.inl ⟨by rfl, by intro w9 _; go_simp⟩) hS7 ?_
  simp only [Act.put, List.setIfInBounds_toArray, List.set_cons_zero, List.set_cons_succ]
  have q5 := R7.out.cell 0 5 (cs := accA user fs r epoch x nonce wrapped old) (v := .string nonce) rfl
  have f5 := R7.out.free 0 5
  have R8 := Lib.hid (acc_st5 R7.out fn)
  have hS8 := R8.out.row 1
  refine wpAnyH_all (rs := [16]) (by kernel_rfl) (by simp) (List.forall_mem_singleton.2 ?_)
  refine wpOp_mk0 (w2 := w7.setCell ⟨ga, 5, none⟩ (.string fn)) rfl (by rfl) rfl (by go_simp) ⟨hS8, ?_⟩
  clear q5 f5 R7
  generalize w7.setCell ⟨ga, 5, none⟩ (.string fn) = w8 at *
  refine wpAnyH_done (by kernel_rfl) ?_ _
  have c0 := R8.out.cell 0 0 (cs := accA user fs r epoch x fn wrapped old) (v := .string user) rfl
  have c4 := R8.out.cell 0 4 (cs := accA user fs r epoch x fn wrapped old) (v := .string x) rfl
  have g1 := R8.out.cell 1 1 (cs := freA fs fn fp r) (v := .string fn) rfl
  have g2 := R8.out.cell 1 2 (cs := freA fs fn fp r) (v := .string fp) rfl
  go_wp2_with fail
  refine (S.out _).mono ?_
  rintro e w9 ⟨rfl, hb⟩
  have R9 := Lib.hid (R8.out.on hb)
  clear hb c0 c4 g1 g2 R8
  have q6 := R9.out.cell 0 6 (cs := accA user fs r epoch x fn wrapped old) (v := .string wrapped) rfl
  have f6 := R9.out.free 0 6
  have R10 := Lib.hid (acc_put6 R9.out z)
  go_upto_region 6 with fail
  clear q6 f6 R9
  generalize World.setCell w9 _ _ = w10 at R10 ⊢
  have RA := Lib.hid (R10.out.row 0)
  have RB := Lib.hid (R10.out.row 2)
  have R11 := Lib.hid (R10.out.store 2 (accA user fs r epoch x fn z old))
  go_wp2_with (first
    | (with_reducible refine wpList_load_row rfl 32 (.tmp 3) rfl ga rfl 32 (accA user fs r epoch x fn z old) (0, 0) _ RA.out Tryz.underlying32 rfl IA.out ?_)
    | (with_reducible refine wpList_store_row rfl 32 (.tmp 6) (.tmp 73) rfl (gb + 1) (accA user fs r epoch x fn z old) rfl rfl 32 (accA ⟨#[]⟩ ⟨#[]⟩ 0 0 ⟨#[]⟩ ⟨#[]⟩ ⟨#[]⟩ ⟨#[]⟩) RB.out IA.out rfl (one_accA _ _ _ _ _ _ _ _) ?_))
  exact bodyPost_ret (results_row_slot rfl _ _ (gb + 1) 32 (accA user fs r epoch x fn z old) (0, 0) _ (.bool true) rfl rfl (R11.out.row 2) Tryz.underlying32 rfl IA.out) rfl ⟨rfl, R11.out.bel⟩
end Go.Proofs.YtfckjilhkdlpfaaGreatDoor
