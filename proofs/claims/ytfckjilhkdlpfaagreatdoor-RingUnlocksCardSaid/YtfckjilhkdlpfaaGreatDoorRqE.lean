/-
  The law RingUnlocks: the walks.
-/
import Derived.Test.YtfckjilhkdlpfaaGreatDoorRqC
import Derived.Test.YtfckjilhkdlpfaaGreatDoorRkJ
namespace Go.Proofs.YtfckjilhkdlpfaaGreatDoor
open Go.RowKit MS

set_option maxRecDepth 1000000 in
set_option maxHeartbeats 8000000 in
theorem unls_a (a : Acc) (pw : ByteArray)  (w : World) (G : Glob w) (S1 : ∀ w, Calls Tryz.prog 7 #[a.v, .agg #[.string ⟨#[]⟩, .string ⟨#[]⟩, .string ⟨#[]⟩, .int .i64 0]] w fun e w' => e = .returned (.bool false) ∧ Below w.heap.size w w') :
    Calls Tryz.prog 5 #[a.v, .string pw] w fun e w' => e = .returned (.bool true) ∧ Below w.heap.size w w' := by
  obtain ⟨user, salt, rounds, epoch, pub, nonce, wrapped, old⟩ := a
  unfold Acc.v at *
  simp only at *
  have S1 := Lib.hid S1
  have AW := Lib.hid (fun w => awake13_any w)
  have HG := Lib.hid G
  have R0 := Lib.hid (rwAcc w user salt rounds epoch pub nonce wrapped old 23)
  clear G
  go_enter Tryz.func5, Tryz.ntmps5
  go_upto_region 1 with fail
  generalize w.alloc (.cells #[.string user, .string salt, .int .i64 rounds, .int .i64 epoch, .string pub, .string nonce, .string wrapped, .string old] 23 (0, 0)) = W at R0 ⊢
  generalize hgf : w.heap.size = gf at *
  obtain ⟨c0, c1, c2, c3, c4, c5, c6, c7⟩ := acc_cells R0.out
  go_wp2_with fail
  refine (S1.out _).mono ?_
  rintro e w1 ⟨rfl, hb⟩
  have R1 := Lib.hid (R0.out.on hb)
  clear hb c0 c1 c2 c3 c4 c5 c6 c7 R0
  go_wp2_with fail
  refine (AW.out _).mono ?_
  rintro e w9 ⟨rfl, hb⟩
  have RZ := Lib.hid (R1.out.on hb)
  clear hb
  go_wp2_with fail
  go_ret
  exact ⟨rfl, hgf ▸ RZ.out.bel⟩
set_option maxRecDepth 1000000 in
set_option maxHeartbeats 8000000 in
theorem unls_b (a : Acc) (pw : ByteArray) (hp : 100 < pw.size) (w : World) (G : Glob w) (S1 : ∀ w, Calls Tryz.prog 7 #[a.v, .agg #[.string ⟨#[]⟩, .string ⟨#[]⟩, .string ⟨#[]⟩, .int .i64 0]] w fun e w' => e = .returned (.bool true) ∧ Below w.heap.size w w') :
    Calls Tryz.prog 5 #[a.v, .string pw] w fun e w' => e = .returned (.bool true) ∧ Below w.heap.size w w' := by
  obtain ⟨user, salt, rounds, epoch, pub, nonce, wrapped, old⟩ := a
  unfold Acc.v at *
  simp only at *
  have S1 := Lib.hid S1
  have AW := Lib.hid (fun w => awake13_any w)
  have HG := Lib.hid G
  have R0 := Lib.hid (rwAcc w user salt rounds epoch pub nonce wrapped old 23)
  have p1 : (pw.size : Int) > 100 := by omega
  clear hp
  clear G
  go_enter Tryz.func5, Tryz.ntmps5
  go_upto_region 1 with fail
  generalize w.alloc (.cells #[.string user, .string salt, .int .i64 rounds, .int .i64 epoch, .string pub, .string nonce, .string wrapped, .string old] 23 (0, 0)) = W at R0 ⊢
  generalize hgf : w.heap.size = gf at *
  obtain ⟨c0, c1, c2, c3, c4, c5, c6, c7⟩ := acc_cells R0.out
  go_wp2_with fail
  refine (S1.out _).mono ?_
  rintro e w1 ⟨rfl, hb⟩
  have R1 := Lib.hid (R0.out.on hb)
  clear hb c0 c1 c2 c3 c4 c5 c6 c7 R0
  go_wp2_with fail
  refine (AW.out _).mono ?_
  rintro e w9 ⟨rfl, hb⟩
  have RZ := Lib.hid (R1.out.on hb)
  clear hb
  go_wp2_with fail
  go_ret
  exact ⟨rfl, hgf ▸ RZ.out.bel⟩
set_option maxRecDepth 1000000 in
set_option maxHeartbeats 8000000 in
theorem unls_err (a : Acc) (pw : ByteArray) (hp : pw.size ≤ 100) (n : Int) (w : World) (G : Glob w) (S1 : ∀ w, Calls Tryz.prog 7 #[a.v, .agg #[.string ⟨#[]⟩, .string ⟨#[]⟩, .string ⟨#[]⟩, .int .i64 0]] w fun e w' => e = .returned (.bool true) ∧ Below w.heap.size w w') (U : ∀ w, Glob w → Calls Tryz.prog 18 #[a.v, .string pw] w fun e w' => UnlQ (.err n) w e w' ∧ Below w.heap.size w w') (RU : ∀ w, Calls Tryz.prog 19 #[a.v, .string pw] w fun e w' => UnlQ (.err n) w e w' ∧ Below w.heap.size w w') (RF : ∀ w, Calls Tryz.prog 12 #[a.v] w fun e w' => e = .returned a.v ∧ Below w.heap.size w w') :
    Calls Tryz.prog 5 #[a.v, .string pw] w fun e w' => e = .returned (.bool true) ∧ Below w.heap.size w w' := by
  obtain ⟨user, salt, rounds, epoch, pub, nonce, wrapped, old⟩ := a
  unfold Acc.v at *
  simp only at *
  have S1 := Lib.hid S1
  have U := Lib.hid U
  have RU := Lib.hid RU
  have RF := Lib.hid RF
  have AW := Lib.hid (fun w => awake13_any w)
  have HG := Lib.hid G
  have R0 := Lib.hid (rwAcc w user salt rounds epoch pub nonce wrapped old 23)
  have p1 : ¬ (pw.size : Int) > 100 := by omega
  clear hp
  clear G
  go_enter Tryz.func5, Tryz.ntmps5
  go_upto_region 1 with fail
  generalize w.alloc (.cells #[.string user, .string salt, .int .i64 rounds, .int .i64 epoch, .string pub, .string nonce, .string wrapped, .string old] 23 (0, 0)) = W at R0 ⊢
  generalize hgf : w.heap.size = gf at *
  obtain ⟨c0, c1, c2, c3, c4, c5, c6, c7⟩ := acc_cells R0.out
  go_wp2_with fail
  refine (S1.out _).mono ?_
  rintro e w1 ⟨rfl, hb⟩
  have R1 := Lib.hid (R0.out.on hb)
  clear hb c0 c1 c2 c3 c4 c5 c6 c7 R0
  obtain ⟨c0, c1, c2, c3, c4, c5, c6, c7⟩ := acc_cells R1.out
  have G1 := Lib.hid (HG.out.on R1.out.bel)
  go_wp2_with fail
  refine (U.out _ G1.out).mono ?_
  rintro e w2 ⟨h, hb⟩
  obtain rfl := h
  have R2 := Lib.hid (R1.out.on hb)
  clear hb c0 c1 c2 c3 c4 c5 c6 c7 R1
  obtain ⟨c0, c1, c2, c3, c4, c5, c6, c7⟩ := acc_cells R2.out
  go_wp2_with fail
  refine (RF.out _).mono ?_
  rintro e w3 ⟨rfl, hb⟩
  have R3 := Lib.hid (R2.out.on hb)
  clear hb c0 c1 c2 c3 c4 c5 c6 c7 R2
  go_wp2_with fail
  refine (RU.out _).mono ?_
  rintro e w4 ⟨h, hb⟩
  obtain rfl := h
  have R4 := Lib.hid (R3.out.on hb)
  clear hb R3
  have SM := Lib.hid (same_nil w4)
  go_wp2_with fail
  refine SM.out.mono ?_
  rintro e w5 ⟨rfl, hb⟩
  have R5 := Lib.hid (R4.out.on hb)
  clear hb R4 SM
  go_wp2_with fail
  refine (AW.out _).mono ?_
  rintro e w9 ⟨rfl, hb⟩
  have RZ := Lib.hid (R5.out.on hb)
  clear hb
  go_wp2_with fail
  go_ret
  exact ⟨rfl, hgf ▸ RZ.out.bel⟩
set_option maxRecDepth 1000000 in
set_option maxHeartbeats 8000000 in
theorem unls_one (a : Acc) (pw : ByteArray) (hp : pw.size ≤ 100) (k : ByteArray) (w : World) (G : Glob w) (S1 : ∀ w, Calls Tryz.prog 7 #[a.v, .agg #[.string ⟨#[]⟩, .string ⟨#[]⟩, .string ⟨#[]⟩, .int .i64 0]] w fun e w' => e = .returned (.bool true) ∧ Below w.heap.size w w') (U : ∀ w, Glob w → Calls Tryz.prog 18 #[a.v, .string pw] w fun e w' => UnlQ (.one k) w e w' ∧ Below w.heap.size w w') (RU : ∀ w, Calls Tryz.prog 19 #[a.v, .string pw] w fun e w' => UnlQ (.one k) w e w' ∧ Below w.heap.size w w') (RF : ∀ w, Calls Tryz.prog 12 #[a.v] w fun e w' => e = .returned a.v ∧ Below w.heap.size w w') :
    Calls Tryz.prog 5 #[a.v, .string pw] w fun e w' => e = .returned (.bool true) ∧ Below w.heap.size w w' := by
  obtain ⟨user, salt, rounds, epoch, pub, nonce, wrapped, old⟩ := a
  unfold Acc.v at *
  simp only at *
  have S1 := Lib.hid S1
  have U := Lib.hid U
  have RU := Lib.hid RU
  have RF := Lib.hid RF
  have AW := Lib.hid (fun w => awake13_any w)
  have HG := Lib.hid G
  have R0 := Lib.hid (rwAcc w user salt rounds epoch pub nonce wrapped old 23)
  have p1 : ¬ (pw.size : Int) > 100 := by omega
  clear hp
  clear G
  go_enter Tryz.func5, Tryz.ntmps5
  go_upto_region 1 with fail
  generalize w.alloc (.cells #[.string user, .string salt, .int .i64 rounds, .int .i64 epoch, .string pub, .string nonce, .string wrapped, .string old] 23 (0, 0)) = W at R0 ⊢
  generalize hgf : w.heap.size = gf at *
  obtain ⟨c0, c1, c2, c3, c4, c5, c6, c7⟩ := acc_cells R0.out
  go_wp2_with fail
  refine (S1.out _).mono ?_
  rintro e w1 ⟨rfl, hb⟩
  have R1 := Lib.hid (R0.out.on hb)
  clear hb c0 c1 c2 c3 c4 c5 c6 c7 R0
  obtain ⟨c0, c1, c2, c3, c4, c5, c6, c7⟩ := acc_cells R1.out
  have G1 := Lib.hid (HG.out.on R1.out.bel)
  go_wp2_with fail
  refine (U.out _ G1.out).mono ?_
  rintro e w2 ⟨⟨g1, hge, rfl, hrow⟩, hb⟩
  have R2 := Lib.hid (R1.out.join hb hge hrow)
  clear hrow hge hb c0 c1 c2 c3 c4 c5 c6 c7 R1
  obtain ⟨c0, c1, c2, c3, c4, c5, c6, c7⟩ := acc_cells R2.out
  go_wp2_with fail
  refine (RF.out _).mono ?_
  rintro e w3 ⟨rfl, hb⟩
  have R3 := Lib.hid (R2.out.on hb)
  clear hb c0 c1 c2 c3 c4 c5 c6 c7 R2
  go_wp2_with fail
  refine (RU.out _).mono ?_
  rintro e w4 ⟨⟨g2, hge, rfl, hrow⟩, hb⟩
  have R4 := Lib.hid (R3.out.join hb hge hrow)
  clear hrow hge hb R3
  have SM := Lib.hid (same_yes [k] g1 g2 w4 (by simp) (R4.out.row 1) (R4.out.row 2))
  have SM := Lib.hid (show Calls Tryz.prog 20 #[.slice (some ⟨g1, 0, none⟩) 1 1, .slice (some ⟨g2, 0, none⟩) 1 1] w4 fun e w' => e = .returned (.bool true) ∧ Below w4.heap.size w4 w' from SM.out)
  go_wp2_with fail
  refine SM.out.mono ?_
  rintro e w5 ⟨rfl, hb⟩
  have R5 := Lib.hid (R4.out.on hb)
  clear hb R4 SM
  go_wp2_with fail
  refine (AW.out _).mono ?_
  rintro e w9 ⟨rfl, hb⟩
  have RZ := Lib.hid (R5.out.on hb)
  clear hb
  go_wp2_with fail
  go_ret
  exact ⟨rfl, hgf ▸ RZ.out.bel⟩
set_option maxRecDepth 1000000 in
set_option maxHeartbeats 8000000 in
theorem unls_two (a : Acc) (pw : ByteArray) (hp : pw.size ≤ 100) (k o : ByteArray) (w : World) (G : Glob w) (S1 : ∀ w, Calls Tryz.prog 7 #[a.v, .agg #[.string ⟨#[]⟩, .string ⟨#[]⟩, .string ⟨#[]⟩, .int .i64 0]] w fun e w' => e = .returned (.bool true) ∧ Below w.heap.size w w') (U : ∀ w, Glob w → Calls Tryz.prog 18 #[a.v, .string pw] w fun e w' => UnlQ (.two k o) w e w' ∧ Below w.heap.size w w') (RU : ∀ w, Calls Tryz.prog 19 #[a.v, .string pw] w fun e w' => UnlQ (.two k o) w e w' ∧ Below w.heap.size w w') (RF : ∀ w, Calls Tryz.prog 12 #[a.v] w fun e w' => e = .returned a.v ∧ Below w.heap.size w w') :
    Calls Tryz.prog 5 #[a.v, .string pw] w fun e w' => e = .returned (.bool true) ∧ Below w.heap.size w w' := by
  obtain ⟨user, salt, rounds, epoch, pub, nonce, wrapped, old⟩ := a
  unfold Acc.v at *
  simp only at *
  have S1 := Lib.hid S1
  have U := Lib.hid U
  have RU := Lib.hid RU
  have RF := Lib.hid RF
  have AW := Lib.hid (fun w => awake13_any w)
  have HG := Lib.hid G
  have R0 := Lib.hid (rwAcc w user salt rounds epoch pub nonce wrapped old 23)
  have p1 : ¬ (pw.size : Int) > 100 := by omega
  clear hp
  clear G
  go_enter Tryz.func5, Tryz.ntmps5
  go_upto_region 1 with fail
  generalize w.alloc (.cells #[.string user, .string salt, .int .i64 rounds, .int .i64 epoch, .string pub, .string nonce, .string wrapped, .string old] 23 (0, 0)) = W at R0 ⊢
  generalize hgf : w.heap.size = gf at *
  obtain ⟨c0, c1, c2, c3, c4, c5, c6, c7⟩ := acc_cells R0.out
  go_wp2_with fail
  refine (S1.out _).mono ?_
  rintro e w1 ⟨rfl, hb⟩
  have R1 := Lib.hid (R0.out.on hb)
  clear hb c0 c1 c2 c3 c4 c5 c6 c7 R0
  obtain ⟨c0, c1, c2, c3, c4, c5, c6, c7⟩ := acc_cells R1.out
  have G1 := Lib.hid (HG.out.on R1.out.bel)
  go_wp2_with fail
  refine (U.out _ G1.out).mono ?_
  rintro e w2 ⟨⟨g1, hge, rfl, hrow⟩, hb⟩
  have R2 := Lib.hid (R1.out.join hb hge hrow)
  clear hrow hge hb c0 c1 c2 c3 c4 c5 c6 c7 R1
  obtain ⟨c0, c1, c2, c3, c4, c5, c6, c7⟩ := acc_cells R2.out
  go_wp2_with fail
  refine (RF.out _).mono ?_
  rintro e w3 ⟨rfl, hb⟩
  have R3 := Lib.hid (R2.out.on hb)
  clear hb c0 c1 c2 c3 c4 c5 c6 c7 R2
  go_wp2_with fail
  refine (RU.out _).mono ?_
  rintro e w4 ⟨⟨g2, hge, rfl, hrow⟩, hb⟩
  have R4 := Lib.hid (R3.out.join hb hge hrow)
  clear hrow hge hb R3
  have SM := Lib.hid (same_yes [k, o] g1 g2 w4 (by simp) (R4.out.row 1) (R4.out.row 2))
  have SM := Lib.hid (show Calls Tryz.prog 20 #[.slice (some ⟨g1, 0, none⟩) 2 2, .slice (some ⟨g2, 0, none⟩) 2 2] w4 fun e w' => e = .returned (.bool true) ∧ Below w4.heap.size w4 w' from SM.out)
  go_wp2_with fail
  refine SM.out.mono ?_
  rintro e w5 ⟨rfl, hb⟩
  have R5 := Lib.hid (R4.out.on hb)
  clear hb R4 SM
  go_wp2_with fail
  refine (AW.out _).mono ?_
  rintro e w9 ⟨rfl, hb⟩
  have RZ := Lib.hid (R5.out.on hb)
  clear hb
  go_wp2_with fail
  go_ret
  exact ⟨rfl, hgf ▸ RZ.out.bel⟩
theorem unlocks_any (a : Acc) (pw : ByteArray) (w : World) (G : Glob w) :
    Calls Tryz.prog 5 #[a.v, .string pw] w fun e w' => e = .returned (.bool true) ∧ Below w.heap.size w w' := by
  have S1 := fun w => short_any a w
  cases h1 : a.short with
  | false =>
    rw [h1] at S1
    exact unls_a a pw w G S1
  | true =>
  have hus : a.user.size ≤ 1000 := by
    unfold Acc.short at h1
    simp only [decide_eq_true_eq] at h1
    omega
  rw [h1] at S1
  by_cases hp : 100 < pw.size
  · exact unls_b a pw hp w G S1
  have U := fun w G => unlock_any a pw w (by omega) G
  have RU := fun w => runlock_any a pw w (by omega) hus
  have RF := fun w => refAcc_any a w
  have hp' : pw.size ≤ 100 := by omega
  cases hu : unlB a pw with
  | err n => rw [hu] at U RU; exact unls_err a pw hp' n w G S1 U RU RF
  | one k => rw [hu] at U RU; exact unls_one a pw hp' k w G S1 U RU RF
  | two k o => rw [hu] at U RU; exact unls_two a pw hp' k o w G S1 U RU RF
end Go.Proofs.YtfckjilhkdlpfaaGreatDoor
