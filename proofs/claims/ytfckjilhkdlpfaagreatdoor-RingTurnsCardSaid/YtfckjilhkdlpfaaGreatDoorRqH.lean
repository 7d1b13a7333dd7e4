/-
  The law RingTurns: the walks.
-/
import Derived.Test.YtfckjilhkdlpfaaGreatDoorRqG
import Derived.Test.YtfckjilhkdlpfaaGreatDoorRkH
import Derived.Test.YtfckjilhkdlpfaaGreatDoorRkJ
namespace Go.Proofs.YtfckjilhkdlpfaaGreatDoor
open Go.RowKit MS

theorem acc_cellsI {w0 w : World} {g T : Nat} {l : List Blk} {user salt : ByteArray} {rounds epoch : Int} {pub nonce wrapped old : ByteArray} (R : Rw w0 l w) (i : Nat) (hi : l[i]? = some (g, accA user salt rounds epoch pub nonce wrapped old, T)) :
    w.cell? ⟨g, 0, none⟩ = some (.string user) ∧ w.cell? ⟨g, 1, none⟩ = some (.string salt) ∧ w.cell? ⟨g, 2, none⟩ = some (.int .i64 rounds) ∧ w.cell? ⟨g, 3, none⟩ = some (.int .i64 epoch) ∧
    w.cell? ⟨g, 4, none⟩ = some (.string pub) ∧ w.cell? ⟨g, 5, none⟩ = some (.string nonce) ∧ w.cell? ⟨g, 6, none⟩ = some (.string wrapped) ∧ w.cell? ⟨g, 7, none⟩ = some (.string old) :=
  ⟨R.cell i 0 rfl hi, R.cell i 1 rfl hi, R.cell i 2 rfl hi, R.cell i 3 rfl hi, R.cell i 4 rfl hi, R.cell i 5 rfl hi, R.cell i 6 rfl hi, R.cell i 7 rfl hi⟩
theorem rwAF2 (w : World) (user salt : ByteArray) (rounds epoch : Int) (pub nonce wrapped old fs fn fp : ByteArray) (fr : Int) (TA TF : TypeId) :
    Rw w [(w.heap.size, accA user salt rounds epoch pub nonce wrapped old, TA), (w.heap.size + 1, freA fs fn fp fr, TF)]
      ((w.alloc (.cells #[.string user, .string salt, .int .i64 rounds, .int .i64 epoch, .string pub, .string nonce, .string wrapped, .string old] TA (0, 0))).alloc (.cells #[.string fs, .string fn, .string fp, .int .i64 fr] TF (0, 0))) := by
  have h := ((Rw.nil w).alloc (accA user salt rounds epoch pub nonce wrapped old) TA).alloc (freA fs fn fp fr) TF
  simp only [World.size_alloc] at h
  exact h

set_option maxRecDepth 1000000 in
set_option maxHeartbeats 8000000 in
theorem turns_a (a : Acc) (old pw fs fn fp : ByteArray) (fr : Int)  (w : World) (G : Glob w) (S1 : ∀ w, Calls Tryz.prog 7 #[a.v, .agg #[.string fs, .string fn, .string fp, .int .i64 fr]] w fun e w' => e = .returned (.bool false) ∧ Below w.heap.size w w') :
    Calls Tryz.prog 3 #[a.v, .string old, .string pw, .agg #[.string fs, .string fn, .string fp, .int .i64 fr]] w fun e w' => e = .returned (.bool true) ∧ Below w.heap.size w w' := by
  obtain ⟨a0, a1, a2, a3, a4, a5, a6, a7⟩ := a
  unfold Acc.v at *
  simp only at *
  have S1 := Lib.hid S1
  have AW := Lib.hid (fun w => awake13_any w)
  have HG := Lib.hid G
  have R0 := Lib.hid (rwAF2 w a0 a1 a2 a3 a4 a5 a6 a7 fs fn fp fr 23 25)
  clear G
  go_enter Tryz.func3, Tryz.ntmps3
  go_upto_region 1 with fail
  generalize (w.alloc (.cells #[.string a0, .string a1, .int .i64 a2, .int .i64 a3, .string a4, .string a5, .string a6, .string a7] 23 (0, 0))).alloc (.cells #[.string fs, .string fn, .string fp, .int .i64 fr] 25 (0, 0)) = W at R0 ⊢
  generalize hga : w.heap.size = ga at *
  generalize hgf : ga + 1 = gf at *
  obtain ⟨c0, c1, c2, c3⟩ := fre_cells R0.out 1 rfl
  have RA := Lib.hid (R0.out.row 0)
  have IA := Lib.hid (infoAcc a0 a1 a2 a3 a4 a5 a6 a7)
  go_wp2_with (with_reducible refine wpList_load_row rfl 23 (.tmp 4) rfl ga rfl 23 (accA a0 a1 a2 a3 a4 a5 a6 a7) (0, 0) _ RA.out Tryz.underlying23 rfl IA.out ?_)
  refine (S1.out _).mono ?_
  rintro e w1 ⟨rfl, hb⟩
  have R1 := Lib.hid (R0.out.on hb)
  clear hb c0 c1 c2 c3 RA IA R0
  go_wp2_with fail
  refine (AW.out _).mono ?_
  rintro e w9 ⟨rfl, hb⟩
  have RZ := Lib.hid (R1.out.on hb)
  clear hb
  go_wp2_with fail
  go_ret
  exact ⟨rfl, hga ▸ RZ.out.bel⟩
set_option maxRecDepth 1000000 in
set_option maxHeartbeats 8000000 in
theorem turns_b (a : Acc) (old pw fs fn fp : ByteArray) (fr : Int) (ho : 100 < old.size) (w : World) (G : Glob w) (S1 : ∀ w, Calls Tryz.prog 7 #[a.v, .agg #[.string fs, .string fn, .string fp, .int .i64 fr]] w fun e w' => e = .returned (.bool true) ∧ Below w.heap.size w w') :
    Calls Tryz.prog 3 #[a.v, .string old, .string pw, .agg #[.string fs, .string fn, .string fp, .int .i64 fr]] w fun e w' => e = .returned (.bool true) ∧ Below w.heap.size w w' := by
  obtain ⟨a0, a1, a2, a3, a4, a5, a6, a7⟩ := a
  unfold Acc.v at *
  simp only at *
  have S1 := Lib.hid S1
  have AW := Lib.hid (fun w => awake13_any w)
  have HG := Lib.hid G
  have R0 := Lib.hid (rwAF2 w a0 a1 a2 a3 a4 a5 a6 a7 fs fn fp fr 23 25)
  have o1 : (old.size : Int) > 100 := by omega
  clear ho
  clear G
  go_enter Tryz.func3, Tryz.ntmps3
  go_upto_region 1 with fail
  generalize (w.alloc (.cells #[.string a0, .string a1, .int .i64 a2, .int .i64 a3, .string a4, .string a5, .string a6, .string a7] 23 (0, 0))).alloc (.cells #[.string fs, .string fn, .string fp, .int .i64 fr] 25 (0, 0)) = W at R0 ⊢
  generalize hga : w.heap.size = ga at *
  generalize hgf : ga + 1 = gf at *
  obtain ⟨c0, c1, c2, c3⟩ := fre_cells R0.out 1 rfl
  have RA := Lib.hid (R0.out.row 0)
  have IA := Lib.hid (infoAcc a0 a1 a2 a3 a4 a5 a6 a7)
  go_wp2_with (with_reducible refine wpList_load_row rfl 23 (.tmp 4) rfl ga rfl 23 (accA a0 a1 a2 a3 a4 a5 a6 a7) (0, 0) _ RA.out Tryz.underlying23 rfl IA.out ?_)
  refine (S1.out _).mono ?_
  rintro e w1 ⟨rfl, hb⟩
  have R1 := Lib.hid (R0.out.on hb)
  clear hb c0 c1 c2 c3 RA IA R0
  go_wp2_with fail
  refine (AW.out _).mono ?_
  rintro e w9 ⟨rfl, hb⟩
  have RZ := Lib.hid (R1.out.on hb)
  clear hb
  go_wp2_with fail
  go_ret
  exact ⟨rfl, hga ▸ RZ.out.bel⟩
set_option maxRecDepth 1000000 in
set_option maxHeartbeats 8000000 in
theorem turns_c (a : Acc) (old pw fs fn fp : ByteArray) (fr : Int) (ho : old.size ≤ 100) (hp : 100 < pw.size) (w : World) (G : Glob w) (S1 : ∀ w, Calls Tryz.prog 7 #[a.v, .agg #[.string fs, .string fn, .string fp, .int .i64 fr]] w fun e w' => e = .returned (.bool true) ∧ Below w.heap.size w w') :
    Calls Tryz.prog 3 #[a.v, .string old, .string pw, .agg #[.string fs, .string fn, .string fp, .int .i64 fr]] w fun e w' => e = .returned (.bool true) ∧ Below w.heap.size w w' := by
  obtain ⟨a0, a1, a2, a3, a4, a5, a6, a7⟩ := a
  unfold Acc.v at *
  simp only at *
  have S1 := Lib.hid S1
  have AW := Lib.hid (fun w => awake13_any w)
  have HG := Lib.hid G
  have R0 := Lib.hid (rwAF2 w a0 a1 a2 a3 a4 a5 a6 a7 fs fn fp fr 23 25)
  have o1 : ¬ (old.size : Int) > 100 := by omega
  have p1 : (pw.size : Int) > 100 := by omega
  clear ho hp
  clear G
  go_enter Tryz.func3, Tryz.ntmps3
  go_upto_region 1 with fail
  generalize (w.alloc (.cells #[.string a0, .string a1, .int .i64 a2, .int .i64 a3, .string a4, .string a5, .string a6, .string a7] 23 (0, 0))).alloc (.cells #[.string fs, .string fn, .string fp, .int .i64 fr] 25 (0, 0)) = W at R0 ⊢
  generalize hga : w.heap.size = ga at *
  generalize hgf : ga + 1 = gf at *
  obtain ⟨c0, c1, c2, c3⟩ := fre_cells R0.out 1 rfl
  have RA := Lib.hid (R0.out.row 0)
  have IA := Lib.hid (infoAcc a0 a1 a2 a3 a4 a5 a6 a7)
  go_wp2_with (with_reducible refine wpList_load_row rfl 23 (.tmp 4) rfl ga rfl 23 (accA a0 a1 a2 a3 a4 a5 a6 a7) (0, 0) _ RA.out Tryz.underlying23 rfl IA.out ?_)
  refine (S1.out _).mono ?_
  rintro e w1 ⟨rfl, hb⟩
  have R1 := Lib.hid (R0.out.on hb)
  clear hb c0 c1 c2 c3 RA IA R0
  go_wp2_with fail
  refine (AW.out _).mono ?_
  rintro e w9 ⟨rfl, hb⟩
  have RZ := Lib.hid (R1.out.on hb)
  clear hb
  go_wp2_with fail
  go_ret
  exact ⟨rfl, hga ▸ RZ.out.bel⟩
set_option maxRecDepth 1000000 in
set_option maxHeartbeats 8000000 in
theorem turns_main (a b c : Acc) (old pw fs fn fp : ByteArray) (fr : Int) (e1 e2 : Int) (ho : old.size ≤ 100) (hp : pw.size ≤ 100) (w : World) (G : Glob w) (S1 : ∀ w, Calls Tryz.prog 7 #[a.v, .agg #[.string fs, .string fn, .string fp, .int .i64 fr]] w fun e w' => e = .returned (.bool true) ∧ Below w.heap.size w w') (CH : ∀ w, Glob w → Calls Tryz.prog 9 #[a.v, .string old, .string pw, .agg #[.string fs, .string fn, .string fp, .int .i64 fr]] w fun e w' => e = .returned (.tuple #[b.v, .int .i64 e1]) ∧ Below w.heap.size w w') (RO : ∀ w, Glob w → Calls Tryz.prog 10 #[a.v, .string old, .agg #[.string fs, .string fn, .string fp, .int .i64 fr]] w fun e w' => e = .returned (.tuple #[c.v, .int .i64 e2]) ∧ Below w.heap.size w w') (RCH : ∀ w, Calls Tryz.prog 11 #[a.v, .string old, .string pw, .agg #[.string fs, .string fn, .string fp, .int .i64 fr]] w fun e w' => e = .returned (.tuple #[b.v, .int .i64 e1]) ∧ Below w.heap.size w w') (RRO : ∀ w, Calls Tryz.prog 14 #[a.v, .string old, .agg #[.string fs, .string fn, .string fp, .int .i64 fr]] w fun e w' => e = .returned (.tuple #[c.v, .int .i64 e2]) ∧ Below w.heap.size w w') (RFA : ∀ w, Calls Tryz.prog 12 #[a.v] w fun e w' => e = .returned (a.v) ∧ Below w.heap.size w w') (RFB : ∀ w, Calls Tryz.prog 12 #[b.v] w fun e w' => e = .returned (b.v) ∧ Below w.heap.size w w') (RFC : ∀ w, Calls Tryz.prog 12 #[c.v] w fun e w' => e = .returned (c.v) ∧ Below w.heap.size w w') (FR : ∀ w, Calls Tryz.prog 13 #[.agg #[.string fs, .string fn, .string fp, .int .i64 fr]] w fun e w' => e = .returned (.agg #[.string fs, .string fn, .string fp, .int .i64 fr]) ∧ Below w.heap.size w w') (FI : ∀ w, Calls Tryz.prog 15 #[a.v] w fun e w' => e = .returned ((⟨a.user, a.salt, a.rounds, a.epoch, a.pub, a.nonce, a.wrapped, bs []⟩ : Acc).v) ∧ Below w.heap.size w w') :
    Calls Tryz.prog 3 #[a.v, .string old, .string pw, .agg #[.string fs, .string fn, .string fp, .int .i64 fr]] w fun e w' => e = .returned (.bool true) ∧ Below w.heap.size w w' := by
  obtain ⟨a0, a1, a2, a3, a4, a5, a6, a7⟩ := a
  obtain ⟨b0, b1, b2, b3, b4, b5, b6, b7⟩ := b
  obtain ⟨c0, c1, c2, c3, c4, c5, c6, c7⟩ := c
  unfold bs Acc.v at *
  simp only at *
  have S1 := Lib.hid S1
  have CH := Lib.hid CH
  have RO := Lib.hid RO
  have RCH := Lib.hid RCH
  have RRO := Lib.hid RRO
  have RFA := Lib.hid RFA
  have RFB := Lib.hid RFB
  have RFC := Lib.hid RFC
  have FR := Lib.hid FR
  have FI := Lib.hid FI
  have AW := Lib.hid (fun w => awake13_any w)
  have HG := Lib.hid G
  have R0 := Lib.hid (rwAF2 w a0 a1 a2 a3 a4 a5 a6 a7 fs fn fp fr 23 25)
  have o1 : ¬ (old.size : Int) > 100 := by omega
  have p1 : ¬ (pw.size : Int) > 100 := by omega
  clear ho hp
  clear G
  go_enter Tryz.func3, Tryz.ntmps3
  go_upto_region 1 with fail
  generalize (w.alloc (.cells #[.string a0, .string a1, .int .i64 a2, .int .i64 a3, .string a4, .string a5, .string a6, .string a7] 23 (0, 0))).alloc (.cells #[.string fs, .string fn, .string fp, .int .i64 fr] 25 (0, 0)) = W at R0 ⊢
  generalize hga : w.heap.size = ga at *
  generalize hgf : ga + 1 = gf at *
  obtain ⟨c0, c1, c2, c3⟩ := fre_cells R0.out 1 rfl
  have RA := Lib.hid (R0.out.row 0)
  have IA := Lib.hid (infoAcc a0 a1 a2 a3 a4 a5 a6 a7)
  go_wp2_with (with_reducible refine wpList_load_row rfl 23 (.tmp 4) rfl ga rfl 23 (accA a0 a1 a2 a3 a4 a5 a6 a7) (0, 0) _ RA.out Tryz.underlying23 rfl IA.out ?_)
  refine (S1.out _).mono ?_
  rintro e w1 ⟨rfl, hb⟩
  have R1 := Lib.hid (R0.out.on hb)
  clear hb c0 c1 c2 c3 RA IA R0
  obtain ⟨c0, c1, c2, c3⟩ := fre_cells R1.out 1 rfl
  have RA := Lib.hid (R1.out.row 0)
  have IA := Lib.hid (infoAcc a0 a1 a2 a3 a4 a5 a6 a7)
  have G1 := Lib.hid (HG.out.on R1.out.bel)
  go_wp2_with (with_reducible refine wpList_load_row rfl 23 (.tmp 4) rfl ga rfl 23 (accA a0 a1 a2 a3 a4 a5 a6 a7) (0, 0) _ RA.out Tryz.underlying23 rfl IA.out ?_)
  refine (CH.out _ G1.out).mono ?_
  rintro e w2 ⟨rfl, hb⟩
  have R2 := Lib.hid (R1.out.on hb)
  clear hb c0 c1 c2 c3 RA IA R1
  have R3 := Lib.hid (show Rw w _ (w2.alloc (.cells #[.string b0, .string b1, .int .i64 b2, .int .i64 b3, .string b4, .string b5, .string b6, .string b7] 23 (0, 0))) from R2.out.alloc (accA b0 b1 b2 b3 b4 b5 b6 b7) 23)
  go_upto_region 4 with fail
  clear R2
  generalize w2.heap.size = gb at *
  generalize w2.alloc (.cells #[.string b0, .string b1, .int .i64 b2, .int .i64 b3, .string b4, .string b5, .string b6, .string b7] 23 (0, 0)) = w2s at *
  obtain ⟨c0, c1, c2, c3⟩ := fre_cells R3.out 1 rfl
  have RA := Lib.hid (R3.out.row 0)
  have IA := Lib.hid (infoAcc a0 a1 a2 a3 a4 a5 a6 a7)
  have G3 := Lib.hid (HG.out.on R3.out.bel)
  go_wp2_with (with_reducible refine wpList_load_row rfl 23 (.tmp 4) rfl ga rfl 23 (accA a0 a1 a2 a3 a4 a5 a6 a7) (0, 0) _ RA.out Tryz.underlying23 rfl IA.out ?_)
  refine (RO.out _ G3.out).mono ?_
  rintro e w3 ⟨rfl, hb⟩
  have R4 := Lib.hid (R3.out.on hb)
  clear hb c0 c1 c2 c3 RA IA R3
  have R5 := Lib.hid (show Rw w _ (w3.alloc (.cells #[.string c0, .string c1, .int .i64 c2, .int .i64 c3, .string c4, .string c5, .string c6, .string c7] 23 (0, 0))) from R4.out.alloc (accA c0 c1 c2 c3 c4 c5 c6 c7) 23)
  go_upto_region 5 with fail
  clear R4
  generalize w3.heap.size = gc at *
  generalize w3.alloc (.cells #[.string c0, .string c1, .int .i64 c2, .int .i64 c3, .string c4, .string c5, .string c6, .string c7] 23 (0, 0)) = w3s at *
  go_cut [13, 14] (fun vx ve wx => ∃ gx, vx = .pointer (some ⟨gx, 0, none⟩) ∧ ve = .int .i64 e1 ∧ Rw w [(ga, accA a0 a1 a2 a3 a4 a5 a6 a7, 23), (gf, freA fs fn fp fr, 25), (gb, accA b0 b1 b2 b3 b4 b5 b6 b7, 23), (gc, accA c0 c1 c2 c3 c4 c5 c6 c7, 23), (gx, accA b0 b1 b2 b3 b4 b5 b6 b7, 32)] wx)
  case first =>
    refine wp_region_held (S := fun w' => w'.heap[ga]? = some (.cells (accA a0 a1 a2 a3 a4 a5 a6 a7) 23 (0, 0)) ∧ w'.heap[gf]? = some (.cells (freA fs fn fp fr) 25 (0, 0))) (by kernel_rfl) ?_
    change wpAnyH _ _ _ _ _ _ _ _ (World.drew _)
    have Q := Lib.hid R5.out.drew
    generalize w3s.drew = v at Q ⊢
    clear R5
    have hS := And.intro (Q.out.row 0) (Q.out.row 1)
    have IA := Lib.hid (infoAcc a0 a1 a2 a3 a4 a5 a6 a7)
    have IF := Lib.hid (infoFre fs fn fp fr)
    have IR := Lib.hid (infoRA b0 b1 b2 b3 b4 b5 b6 b7)
    refine wpAnyH_take_at (i := 0) (d := 49) (v := (.agg (accA a0 a1 a2 a3 a4 a5 a6 a7))) rfl (by kernel_rfl) (by kernel_rfl) (by kernel_rfl) (fun _ _ _ h => h) rfl (Or.inl ⟨by rfl, fun w9 h9 => run_load_row 23 (.tmp 4) rfl ga rfl 23 _ (0, 0) _ h9.1 Tryz.underlying23 rfl IA.out⟩) hS ?_
    simp only [Act.put, List.setIfInBounds_toArray, List.set_cons_zero, List.set_cons_succ]
    refine wpAnyH_take_at (i := 2) (d := 51) (v := .string old) rfl (by kernel_rfl) (by kernel_rfl) (by kernel_rfl) (fun _ _ _ h => h) rfl (Or.inl ⟨by rfl, by intro w9 _; go_simp⟩) hS ?_
    simp only [Act.put, List.setIfInBounds_toArray, List.set_cons_zero, List.set_cons_succ]
    refine wpAnyH_take_at (i := 3) (d := 52) (v := .string pw) rfl (by kernel_rfl) (by kernel_rfl) (by kernel_rfl) (fun _ _ _ h => h) rfl (Or.inl ⟨by rfl, by intro w9 _; go_simp⟩) hS ?_
    simp only [Act.put, List.setIfInBounds_toArray, List.set_cons_zero, List.set_cons_succ]
    refine wpAnyH_take_at (i := 4) (d := 53) (v := (.agg (freA fs fn fp fr))) rfl (by kernel_rfl) (by kernel_rfl) (by kernel_rfl) (fun _ _ _ h => h) rfl (Or.inl ⟨by rfl, fun w9 h9 => run_load_row 25 (.tmp 7) rfl gf rfl 25 _ (0, 0) _ h9.2 Tryz.underlying25 rfl IF.out⟩) hS ?_
    simp only [Act.put, List.setIfInBounds_toArray, List.set_cons_zero, List.set_cons_succ]
    refine wpAnyH_all (rs := [1, 10]) (by kernel_rfl) (by simp) ?_
    intro j hj
    rcases List.mem_cons.1 hj with rfl | hj
    case' inr =>
      rw [List.mem_singleton.1 hj]
      have Q := Lib.hid (show Rw w _ (v.alloc (.cells #[.string ⟨#[]⟩, .string ⟨#[]⟩, .int .i64 0, .int .i64 0, .string ⟨#[]⟩, .string ⟨#[]⟩, .string ⟨#[]⟩, .string ⟨#[]⟩] 32 (0, 0))) from Q.out.alloc (accA ⟨#[]⟩ ⟨#[]⟩ 0 0 ⟨#[]⟩ ⟨#[]⟩ ⟨#[]⟩ ⟨#[]⟩) 32)
      refine wpOp_mk (d := 13) (v := .pointer (some ⟨v.heap.size, 0, none⟩)) (w2 := v.alloc _) rfl (by rfl) rfl (by go_simp) ⟨And.intro (Q.out.row 0) (Q.out.row 1), ?_⟩
      simp only [Act.put, List.setIfInBounds_toArray, List.set_cons_zero, List.set_cons_succ]
      generalize v.heap.size = gx at Q ⊢
      generalize v.alloc _ = v at Q ⊢
      refine wpAnyH_all (rs := [1]) (by kernel_rfl) (by simp) (List.forall_mem_singleton.2 ?_)
      refine wpOp_call (d := 50) (f := 12) (args := #[.agg (accA a0 a1 a2 a3 a4 a5 a6 a7)]) rfl (by rfl) rfl (by go_simp) ((RFA.out _).mono ?_)
      rintro e v ⟨rfl, hb⟩
      have Q := Lib.hid (Q.out.on hb)
      refine ⟨_, rfl, And.intro (Q.out.row 0) (Q.out.row 1), ?_⟩
      simp only [Act.put, List.setIfInBounds_toArray, List.set_cons_zero, List.set_cons_succ]
      refine wpAnyH_all (rs := [5]) (by kernel_rfl) (by simp) (List.forall_mem_singleton.2 ?_)
      refine wpOp_call (d := 54) (f := 13) (args := #[.agg (freA fs fn fp fr)]) rfl (by rfl) rfl (by go_simp) ((FR.out _).mono ?_)
      rintro e v ⟨rfl, hb⟩
      have Q := Lib.hid (Q.out.on hb)
      refine ⟨_, rfl, And.intro (Q.out.row 0) (Q.out.row 1), ?_⟩
      simp only [Act.put, List.setIfInBounds_toArray, List.set_cons_zero, List.set_cons_succ]
      refine wpAnyH_all (rs := [6]) (by kernel_rfl) (by simp) (List.forall_mem_singleton.2 ?_)
      refine wpOp_call (d := 55) (f := 11) (args := #[.agg #[.string a0, .string a1, .int .i64 a2, .int .i64 a3, .string a4, .string a5, .string a6, .string a7], .string old, .string pw, .agg #[.string fs, .string fn, .string fp, .int .i64 fr]]) rfl (by rfl) rfl (by go_simp) ((RCH.out _).mono ?_)
      rintro e v ⟨rfl, hb⟩
      have Q := Lib.hid (Q.out.on hb)
      refine ⟨_, rfl, And.intro (Q.out.row 0) (Q.out.row 1), ?_⟩
      simp only [Act.put, List.setIfInBounds_toArray, List.set_cons_zero, List.set_cons_succ]
      refine wpAnyH_take_at (i := 7) (d := 48) (v := .tuple #[.agg #[.string b0, .string b1, .int .i64 b2, .int .i64 b3, .string b4, .string b5, .string b6, .string b7], .int .i64 e1]) rfl (by kernel_rfl) (by kernel_rfl) (by kernel_rfl) (fun _ _ _ h => h) rfl (Or.inl ⟨by rfl, by intro w9 _; go_simp⟩) (And.intro (Q.out.row 0) (Q.out.row 1)) ?_
      simp only [Act.put, List.setIfInBounds_toArray, List.set_cons_zero, List.set_cons_succ]
      refine wpAnyH_take_at (i := 8) (d := 56) (v := .agg (accA b0 b1 b2 b3 b4 b5 b6 b7)) rfl (by kernel_rfl) (by kernel_rfl) (by kernel_rfl) (fun _ _ _ h => h) rfl (Or.inl ⟨by rfl, by intro w9 _; go_simp; rfl⟩) (And.intro (Q.out.row 0) (Q.out.row 1)) ?_
      simp only [Act.put, List.setIfInBounds_toArray, List.set_cons_zero, List.set_cons_succ]
      refine wpAnyH_take_at (i := 9) (d := 57) (v := .int .i64 e1) rfl (by kernel_rfl) (by kernel_rfl) (by kernel_rfl) (fun _ _ _ h => h) rfl (Or.inl ⟨by rfl, by intro w9 _; go_simp⟩) (And.intro (Q.out.row 0) (Q.out.row 1)) ?_
      simp only [Act.put, List.setIfInBounds_toArray, List.set_cons_zero, List.set_cons_succ]
    case' inl =>
      refine wpOp_call (d := 50) (f := 12) (args := #[.agg (accA a0 a1 a2 a3 a4 a5 a6 a7)]) rfl (by rfl) rfl (by go_simp) ((RFA.out _).mono ?_)
      rintro e v ⟨rfl, hb⟩
      have Q := Lib.hid (Q.out.on hb)
      refine ⟨_, rfl, And.intro (Q.out.row 0) (Q.out.row 1), ?_⟩
      simp only [Act.put, List.setIfInBounds_toArray, List.set_cons_zero, List.set_cons_succ]
      refine wpAnyH_all (rs := [5, 10]) (by kernel_rfl) (by simp) ?_
      intro j hj
      rcases List.mem_cons.1 hj with rfl | hj
      case' inr =>
        rw [List.mem_singleton.1 hj]
        have Q := Lib.hid (show Rw w _ (v.alloc (.cells #[.string ⟨#[]⟩, .string ⟨#[]⟩, .int .i64 0, .int .i64 0, .string ⟨#[]⟩, .string ⟨#[]⟩, .string ⟨#[]⟩, .string ⟨#[]⟩] 32 (0, 0))) from Q.out.alloc (accA ⟨#[]⟩ ⟨#[]⟩ 0 0 ⟨#[]⟩ ⟨#[]⟩ ⟨#[]⟩ ⟨#[]⟩) 32)
        refine wpOp_mk (d := 13) (v := .pointer (some ⟨v.heap.size, 0, none⟩)) (w2 := v.alloc _) rfl (by rfl) rfl (by go_simp) ⟨And.intro (Q.out.row 0) (Q.out.row 1), ?_⟩
        simp only [Act.put, List.setIfInBounds_toArray, List.set_cons_zero, List.set_cons_succ]
        generalize v.heap.size = gx at Q ⊢
        generalize v.alloc _ = v at Q ⊢
        refine wpAnyH_all (rs := [5]) (by kernel_rfl) (by simp) (List.forall_mem_singleton.2 ?_)
        refine wpOp_call (d := 54) (f := 13) (args := #[.agg (freA fs fn fp fr)]) rfl (by rfl) rfl (by go_simp) ((FR.out _).mono ?_)
        rintro e v ⟨rfl, hb⟩
        have Q := Lib.hid (Q.out.on hb)
        refine ⟨_, rfl, And.intro (Q.out.row 0) (Q.out.row 1), ?_⟩
        simp only [Act.put, List.setIfInBounds_toArray, List.set_cons_zero, List.set_cons_succ]
        refine wpAnyH_all (rs := [6]) (by kernel_rfl) (by simp) (List.forall_mem_singleton.2 ?_)
        refine wpOp_call (d := 55) (f := 11) (args := #[.agg #[.string a0, .string a1, .int .i64 a2, .int .i64 a3, .string a4, .string a5, .string a6, .string a7], .string old, .string pw, .agg #[.string fs, .string fn, .string fp, .int .i64 fr]]) rfl (by rfl) rfl (by go_simp) ((RCH.out _).mono ?_)
        rintro e v ⟨rfl, hb⟩
        have Q := Lib.hid (Q.out.on hb)
        refine ⟨_, rfl, And.intro (Q.out.row 0) (Q.out.row 1), ?_⟩
        simp only [Act.put, List.setIfInBounds_toArray, List.set_cons_zero, List.set_cons_succ]
        refine wpAnyH_take_at (i := 7) (d := 48) (v := .tuple #[.agg #[.string b0, .string b1, .int .i64 b2, .int .i64 b3, .string b4, .string b5, .string b6, .string b7], .int .i64 e1]) rfl (by kernel_rfl) (by kernel_rfl) (by kernel_rfl) (fun _ _ _ h => h) rfl (Or.inl ⟨by rfl, by intro w9 _; go_simp⟩) (And.intro (Q.out.row 0) (Q.out.row 1)) ?_
        simp only [Act.put, List.setIfInBounds_toArray, List.set_cons_zero, List.set_cons_succ]
        refine wpAnyH_take_at (i := 8) (d := 56) (v := .agg (accA b0 b1 b2 b3 b4 b5 b6 b7)) rfl (by kernel_rfl) (by kernel_rfl) (by kernel_rfl) (fun _ _ _ h => h) rfl (Or.inl ⟨by rfl, by intro w9 _; go_simp; rfl⟩) (And.intro (Q.out.row 0) (Q.out.row 1)) ?_
        simp only [Act.put, List.setIfInBounds_toArray, List.set_cons_zero, List.set_cons_succ]
        refine wpAnyH_take_at (i := 9) (d := 57) (v := .int .i64 e1) rfl (by kernel_rfl) (by kernel_rfl) (by kernel_rfl) (fun _ _ _ h => h) rfl (Or.inl ⟨by rfl, by intro w9 _; go_simp⟩) (And.intro (Q.out.row 0) (Q.out.row 1)) ?_
        simp only [Act.put, List.setIfInBounds_toArray, List.set_cons_zero, List.set_cons_succ]
      case' inl =>
        refine wpOp_call (d := 54) (f := 13) (args := #[.agg (freA fs fn fp fr)]) rfl (by rfl) rfl (by go_simp) ((FR.out _).mono ?_)
        rintro e v ⟨rfl, hb⟩
        have Q := Lib.hid (Q.out.on hb)
        refine ⟨_, rfl, And.intro (Q.out.row 0) (Q.out.row 1), ?_⟩
        simp only [Act.put, List.setIfInBounds_toArray, List.set_cons_zero, List.set_cons_succ]
        refine wpAnyH_all (rs := [6, 10]) (by kernel_rfl) (by simp) ?_
        intro j hj
        rcases List.mem_cons.1 hj with rfl | hj
        case' inr =>
          rw [List.mem_singleton.1 hj]
          have Q := Lib.hid (show Rw w _ (v.alloc (.cells #[.string ⟨#[]⟩, .string ⟨#[]⟩, .int .i64 0, .int .i64 0, .string ⟨#[]⟩, .string ⟨#[]⟩, .string ⟨#[]⟩, .string ⟨#[]⟩] 32 (0, 0))) from Q.out.alloc (accA ⟨#[]⟩ ⟨#[]⟩ 0 0 ⟨#[]⟩ ⟨#[]⟩ ⟨#[]⟩ ⟨#[]⟩) 32)
          refine wpOp_mk (d := 13) (v := .pointer (some ⟨v.heap.size, 0, none⟩)) (w2 := v.alloc _) rfl (by rfl) rfl (by go_simp) ⟨And.intro (Q.out.row 0) (Q.out.row 1), ?_⟩
          simp only [Act.put, List.setIfInBounds_toArray, List.set_cons_zero, List.set_cons_succ]
          generalize v.heap.size = gx at Q ⊢
          generalize v.alloc _ = v at Q ⊢
          refine wpAnyH_all (rs := [6]) (by kernel_rfl) (by simp) (List.forall_mem_singleton.2 ?_)
          refine wpOp_call (d := 55) (f := 11) (args := #[.agg #[.string a0, .string a1, .int .i64 a2, .int .i64 a3, .string a4, .string a5, .string a6, .string a7], .string old, .string pw, .agg #[.string fs, .string fn, .string fp, .int .i64 fr]]) rfl (by rfl) rfl (by go_simp) ((RCH.out _).mono ?_)
          rintro e v ⟨rfl, hb⟩
          have Q := Lib.hid (Q.out.on hb)
          refine ⟨_, rfl, And.intro (Q.out.row 0) (Q.out.row 1), ?_⟩
          simp only [Act.put, List.setIfInBounds_toArray, List.set_cons_zero, List.set_cons_succ]
          refine wpAnyH_take_at (i := 7) (d := 48) (v := .tuple #[.agg #[.string b0, .string b1, .int .i64 b2, .int .i64 b3, .string b4, .string b5, .string b6, .string b7], .int .i64 e1]) rfl (by kernel_rfl) (by kernel_rfl) (by kernel_rfl) (fun _ _ _ h => h) rfl (Or.inl ⟨by rfl, by intro w9 _; go_simp⟩) (And.intro (Q.out.row 0) (Q.out.row 1)) ?_
          simp only [Act.put, List.setIfInBounds_toArray, List.set_cons_zero, List.set_cons_succ]
          refine wpAnyH_take_at (i := 8) (d := 56) (v := .agg (accA b0 b1 b2 b3 b4 b5 b6 b7)) rfl (by kernel_rfl) (by kernel_rfl) (by kernel_rfl) (fun _ _ _ h => h) rfl (Or.inl ⟨by rfl, by intro w9 _; go_simp; rfl⟩) (And.intro (Q.out.row 0) (Q.out.row 1)) ?_
          simp only [Act.put, List.setIfInBounds_toArray, List.set_cons_zero, List.set_cons_succ]
          refine wpAnyH_take_at (i := 9) (d := 57) (v := .int .i64 e1) rfl (by kernel_rfl) (by kernel_rfl) (by kernel_rfl) (fun _ _ _ h => h) rfl (Or.inl ⟨by rfl, by intro w9 _; go_simp⟩) (And.intro (Q.out.row 0) (Q.out.row 1)) ?_
          simp only [Act.put, List.setIfInBounds_toArray, List.set_cons_zero, List.set_cons_succ]
        case' inl =>
          refine wpOp_call (d := 55) (f := 11) (args := #[.agg #[.string a0, .string a1, .int .i64 a2, .int .i64 a3, .string a4, .string a5, .string a6, .string a7], .string old, .string pw, .agg #[.string fs, .string fn, .string fp, .int .i64 fr]]) rfl (by rfl) rfl (by go_simp) ((RCH.out _).mono ?_)
          rintro e v ⟨rfl, hb⟩
          have Q := Lib.hid (Q.out.on hb)
          refine ⟨_, rfl, And.intro (Q.out.row 0) (Q.out.row 1), ?_⟩
          simp only [Act.put, List.setIfInBounds_toArray, List.set_cons_zero, List.set_cons_succ]
          refine wpAnyH_take_at (i := 7) (d := 48) (v := .tuple #[.agg #[.string b0, .string b1, .int .i64 b2, .int .i64 b3, .string b4, .string b5, .string b6, .string b7], .int .i64 e1]) rfl (by kernel_rfl) (by kernel_rfl) (by kernel_rfl) (fun _ _ _ h => h) rfl (Or.inl ⟨by rfl, by intro w9 _; go_simp⟩) (And.intro (Q.out.row 0) (Q.out.row 1)) ?_
          simp only [Act.put, List.setIfInBounds_toArray, List.set_cons_zero, List.set_cons_succ]
          refine wpAnyH_take_at (i := 8) (d := 56) (v := .agg (accA b0 b1 b2 b3 b4 b5 b6 b7)) rfl (by kernel_rfl) (by kernel_rfl) (by kernel_rfl) (fun _ _ _ h => h) rfl (Or.inl ⟨by rfl, by intro w9 _; go_simp; rfl⟩) (And.intro (Q.out.row 0) (Q.out.row 1)) ?_
          simp only [Act.put, List.setIfInBounds_toArray, List.set_cons_zero, List.set_cons_succ]
          refine wpAnyH_take_at (i := 9) (d := 57) (v := .int .i64 e1) rfl (by kernel_rfl) (by kernel_rfl) (by kernel_rfl) (fun _ _ _ h => h) rfl (Or.inl ⟨by rfl, by intro w9 _; go_simp⟩) (And.intro (Q.out.row 0) (Q.out.row 1)) ?_
          simp only [Act.put, List.setIfInBounds_toArray, List.set_cons_zero, List.set_cons_succ]
          refine wpAnyH_all (rs := [10]) (by kernel_rfl) (by simp) (List.forall_mem_singleton.2 ?_)
          have Q := Lib.hid (show Rw w _ (v.alloc (.cells #[.string ⟨#[]⟩, .string ⟨#[]⟩, .int .i64 0, .int .i64 0, .string ⟨#[]⟩, .string ⟨#[]⟩, .string ⟨#[]⟩, .string ⟨#[]⟩] 32 (0, 0))) from Q.out.alloc (accA ⟨#[]⟩ ⟨#[]⟩ 0 0 ⟨#[]⟩ ⟨#[]⟩ ⟨#[]⟩ ⟨#[]⟩) 32)
          refine wpOp_mk (d := 13) (v := .pointer (some ⟨v.heap.size, 0, none⟩)) (w2 := v.alloc _) rfl (by rfl) rfl (by go_simp) ⟨And.intro (Q.out.row 0) (Q.out.row 1), ?_⟩
          simp only [Act.put, List.setIfInBounds_toArray, List.set_cons_zero, List.set_cons_succ]
          generalize v.heap.size = gx at Q ⊢
          generalize v.alloc _ = v at Q ⊢
    all_goals
      have Q2 := Lib.hid (Q.out.store 4 (accA b0 b1 b2 b3 b4 b5 b6 b7))
      refine wpAnyH_all (rs := [11]) (by kernel_rfl) (by simp) (List.forall_mem_singleton.2 ?_)
      refine wpOp_store rfl rfl rfl 32 (.tmp 13) (.tmp 56) rfl gx (accA b0 b1 b2 b3 b4 b5 b6 b7) rfl rfl 32 (accA ⟨#[]⟩ ⟨#[]⟩ 0 0 ⟨#[]⟩ ⟨#[]⟩ ⟨#[]⟩ ⟨#[]⟩) (Q.out.row 4) IR.out rfl (one_accA _ _ _ _ _ _ _ _) ⟨And.intro (Q2.out.row 0) (Q2.out.row 1), ?_⟩
      refine wpAnyH_all (rs := [12]) (by kernel_rfl) (by simp) (List.forall_mem_singleton.2 ?_)
      refine wpOp_assign (d := 14) (s := 57) (v := .int .i64 e1) rfl rfl rfl rfl rfl ⟨And.intro (Q2.out.row 0) (Q2.out.row 1), ?_⟩
      simp only [Act.put, List.setIfInBounds_toArray, List.set_cons_zero, List.set_cons_succ]
      refine wpAnyH_done (by kernel_rfl) ?_ _
      go_wp2_with fail
      go_meet
      exact ⟨gx, rfl, rfl, Q2.out⟩
  case rest =>
    obtain ⟨gx, rfl, rfl, hR⟩ := hcut
    have R6 := Lib.hid hR
    clear hR R5
    go_upto_region 6 with fail
    go_cut [15, 16] (fun vx ve wx => ∃ gy, vx = .pointer (some ⟨gy, 0, none⟩) ∧ ve = .int .i64 e2 ∧ Rw w [(ga, accA a0 a1 a2 a3 a4 a5 a6 a7, 23), (gf, freA fs fn fp fr, 25), (gb, accA b0 b1 b2 b3 b4 b5 b6 b7, 23), (gc, accA c0 c1 c2 c3 c4 c5 c6 c7, 23), (gx, accA b0 b1 b2 b3 b4 b5 b6 b7, 32), (gy, accA c0 c1 c2 c3 c4 c5 c6 c7, 32)] wx)
    case first =>
      refine wp_region_held (S := fun w' => w'.heap[ga]? = some (.cells (accA a0 a1 a2 a3 a4 a5 a6 a7) 23 (0, 0)) ∧ w'.heap[gf]? = some (.cells (freA fs fn fp fr) 25 (0, 0))) (by kernel_rfl) ?_
      change wpAnyH _ _ _ _ _ _ _ _ (World.drew _)
      have Q := Lib.hid R6.out.drew
      generalize wc.drew = v at Q ⊢
      clear R6
      have hS := And.intro (Q.out.row 0) (Q.out.row 1)
      have IA := Lib.hid (infoAcc a0 a1 a2 a3 a4 a5 a6 a7)
      have IF := Lib.hid (infoFre fs fn fp fr)
      have IR := Lib.hid (infoRA c0 c1 c2 c3 c4 c5 c6 c7)
      refine wpAnyH_take_at (i := 0) (d := 59) (v := (.agg (accA a0 a1 a2 a3 a4 a5 a6 a7))) rfl (by kernel_rfl) (by kernel_rfl) (by kernel_rfl) (fun _ _ _ h => h) rfl (Or.inl ⟨by rfl, fun w9 h9 => run_load_row 23 (.tmp 4) rfl ga rfl 23 _ (0, 0) _ h9.1 Tryz.underlying23 rfl IA.out⟩) hS ?_
      simp only [Act.put, List.setIfInBounds_toArray, List.set_cons_zero, List.set_cons_succ]
      refine wpAnyH_take_at (i := 2) (d := 61) (v := .string old) rfl (by kernel_rfl) (by kernel_rfl) (by kernel_rfl) (fun _ _ _ h => h) rfl (Or.inl ⟨by rfl, by intro w9 _; go_simp⟩) hS ?_
      simp only [Act.put, List.setIfInBounds_toArray, List.set_cons_zero, List.set_cons_succ]
      refine wpAnyH_take_at (i := 3) (d := 62) (v := (.agg (freA fs fn fp fr))) rfl (by kernel_rfl) (by kernel_rfl) (by kernel_rfl) (fun _ _ _ h => h) rfl (Or.inl ⟨by rfl, fun w9 h9 => run_load_row 25 (.tmp 7) rfl gf rfl 25 _ (0, 0) _ h9.2 Tryz.underlying25 rfl IF.out⟩) hS ?_
      simp only [Act.put, List.setIfInBounds_toArray, List.set_cons_zero, List.set_cons_succ]
      refine wpAnyH_all (rs := [1, 9]) (by kernel_rfl) (by simp) ?_
      intro j hj
      rcases List.mem_cons.1 hj with rfl | hj
      case' inr =>
        rw [List.mem_singleton.1 hj]
        have Q := Lib.hid (show Rw w _ (v.alloc (.cells #[.string ⟨#[]⟩, .string ⟨#[]⟩, .int .i64 0, .int .i64 0, .string ⟨#[]⟩, .string ⟨#[]⟩, .string ⟨#[]⟩, .string ⟨#[]⟩] 32 (0, 0))) from Q.out.alloc (accA ⟨#[]⟩ ⟨#[]⟩ 0 0 ⟨#[]⟩ ⟨#[]⟩ ⟨#[]⟩ ⟨#[]⟩) 32)
        refine wpOp_mk (d := 15) (v := .pointer (some ⟨v.heap.size, 0, none⟩)) (w2 := v.alloc _) rfl (by rfl) rfl (by go_simp) ⟨And.intro (Q.out.row 0) (Q.out.row 1), ?_⟩
        simp only [Act.put, List.setIfInBounds_toArray, List.set_cons_zero, List.set_cons_succ]
        generalize v.heap.size = gx at Q ⊢
        generalize v.alloc _ = v at Q ⊢
        refine wpAnyH_all (rs := [1]) (by kernel_rfl) (by simp) (List.forall_mem_singleton.2 ?_)
        refine wpOp_call (d := 60) (f := 12) (args := #[.agg (accA a0 a1 a2 a3 a4 a5 a6 a7)]) rfl (by rfl) rfl (by go_simp) ((RFA.out _).mono ?_)
        rintro e v ⟨rfl, hb⟩
        have Q := Lib.hid (Q.out.on hb)
        refine ⟨_, rfl, And.intro (Q.out.row 0) (Q.out.row 1), ?_⟩
        simp only [Act.put, List.setIfInBounds_toArray, List.set_cons_zero, List.set_cons_succ]
        refine wpAnyH_all (rs := [4]) (by kernel_rfl) (by simp) (List.forall_mem_singleton.2 ?_)
        refine wpOp_call (d := 63) (f := 13) (args := #[.agg (freA fs fn fp fr)]) rfl (by rfl) rfl (by go_simp) ((FR.out _).mono ?_)
        rintro e v ⟨rfl, hb⟩
        have Q := Lib.hid (Q.out.on hb)
        refine ⟨_, rfl, And.intro (Q.out.row 0) (Q.out.row 1), ?_⟩
        simp only [Act.put, List.setIfInBounds_toArray, List.set_cons_zero, List.set_cons_succ]
        refine wpAnyH_all (rs := [5]) (by kernel_rfl) (by simp) (List.forall_mem_singleton.2 ?_)
        refine wpOp_call (d := 64) (f := 14) (args := #[.agg #[.string a0, .string a1, .int .i64 a2, .int .i64 a3, .string a4, .string a5, .string a6, .string a7], .string old, .agg #[.string fs, .string fn, .string fp, .int .i64 fr]]) rfl (by rfl) rfl (by go_simp) ((RRO.out _).mono ?_)
        rintro e v ⟨rfl, hb⟩
        have Q := Lib.hid (Q.out.on hb)
        refine ⟨_, rfl, And.intro (Q.out.row 0) (Q.out.row 1), ?_⟩
        simp only [Act.put, List.setIfInBounds_toArray, List.set_cons_zero, List.set_cons_succ]
        refine wpAnyH_take_at (i := 6) (d := 58) (v := .tuple #[.agg #[.string c0, .string c1, .int .i64 c2, .int .i64 c3, .string c4, .string c5, .string c6, .string c7], .int .i64 e2]) rfl (by kernel_rfl) (by kernel_rfl) (by kernel_rfl) (fun _ _ _ h => h) rfl (Or.inl ⟨by rfl, by intro w9 _; go_simp⟩) (And.intro (Q.out.row 0) (Q.out.row 1)) ?_
        simp only [Act.put, List.setIfInBounds_toArray, List.set_cons_zero, List.set_cons_succ]
        refine wpAnyH_take_at (i := 7) (d := 65) (v := .agg (accA c0 c1 c2 c3 c4 c5 c6 c7)) rfl (by kernel_rfl) (by kernel_rfl) (by kernel_rfl) (fun _ _ _ h => h) rfl (Or.inl ⟨by rfl, by intro w9 _; go_simp; rfl⟩) (And.intro (Q.out.row 0) (Q.out.row 1)) ?_
        simp only [Act.put, List.setIfInBounds_toArray, List.set_cons_zero, List.set_cons_succ]
        refine wpAnyH_take_at (i := 8) (d := 66) (v := .int .i64 e2) rfl (by kernel_rfl) (by kernel_rfl) (by kernel_rfl) (fun _ _ _ h => h) rfl (Or.inl ⟨by rfl, by intro w9 _; go_simp⟩) (And.intro (Q.out.row 0) (Q.out.row 1)) ?_
        simp only [Act.put, List.setIfInBounds_toArray, List.set_cons_zero, List.set_cons_succ]
      case' inl =>
        refine wpOp_call (d := 60) (f := 12) (args := #[.agg (accA a0 a1 a2 a3 a4 a5 a6 a7)]) rfl (by rfl) rfl (by go_simp) ((RFA.out _).mono ?_)
        rintro e v ⟨rfl, hb⟩
        have Q := Lib.hid (Q.out.on hb)
        refine ⟨_, rfl, And.intro (Q.out.row 0) (Q.out.row 1), ?_⟩
        simp only [Act.put, List.setIfInBounds_toArray, List.set_cons_zero, List.set_cons_succ]
        refine wpAnyH_all (rs := [4, 9]) (by kernel_rfl) (by simp) ?_
        intro j hj
        rcases List.mem_cons.1 hj with rfl | hj
        case' inr =>
          rw [List.mem_singleton.1 hj]
          have Q := Lib.hid (show Rw w _ (v.alloc (.cells #[.string ⟨#[]⟩, .string ⟨#[]⟩, .int .i64 0, .int .i64 0, .string ⟨#[]⟩, .string ⟨#[]⟩, .string ⟨#[]⟩, .string ⟨#[]⟩] 32 (0, 0))) from Q.out.alloc (accA ⟨#[]⟩ ⟨#[]⟩ 0 0 ⟨#[]⟩ ⟨#[]⟩ ⟨#[]⟩ ⟨#[]⟩) 32)
          refine wpOp_mk (d := 15) (v := .pointer (some ⟨v.heap.size, 0, none⟩)) (w2 := v.alloc _) rfl (by rfl) rfl (by go_simp) ⟨And.intro (Q.out.row 0) (Q.out.row 1), ?_⟩
          simp only [Act.put, List.setIfInBounds_toArray, List.set_cons_zero, List.set_cons_succ]
          generalize v.heap.size = gx at Q ⊢
          generalize v.alloc _ = v at Q ⊢
          refine wpAnyH_all (rs := [4]) (by kernel_rfl) (by simp) (List.forall_mem_singleton.2 ?_)
          refine wpOp_call (d := 63) (f := 13) (args := #[.agg (freA fs fn fp fr)]) rfl (by rfl) rfl (by go_simp) ((FR.out _).mono ?_)
          rintro e v ⟨rfl, hb⟩
          have Q := Lib.hid (Q.out.on hb)
          refine ⟨_, rfl, And.intro (Q.out.row 0) (Q.out.row 1), ?_⟩
          simp only [Act.put, List.setIfInBounds_toArray, List.set_cons_zero, List.set_cons_succ]
          refine wpAnyH_all (rs := [5]) (by kernel_rfl) (by simp) (List.forall_mem_singleton.2 ?_)
          refine wpOp_call (d := 64) (f := 14) (args := #[.agg #[.string a0, .string a1, .int .i64 a2, .int .i64 a3, .string a4, .string a5, .string a6, .string a7], .string old, .agg #[.string fs, .string fn, .string fp, .int .i64 fr]]) rfl (by rfl) rfl (by go_simp) ((RRO.out _).mono ?_)
          rintro e v ⟨rfl, hb⟩
          have Q := Lib.hid (Q.out.on hb)
          refine ⟨_, rfl, And.intro (Q.out.row 0) (Q.out.row 1), ?_⟩
          simp only [Act.put, List.setIfInBounds_toArray, List.set_cons_zero, List.set_cons_succ]
          refine wpAnyH_take_at (i := 6) (d := 58) (v := .tuple #[.agg #[.string c0, .string c1, .int .i64 c2, .int .i64 c3, .string c4, .string c5, .string c6, .string c7], .int .i64 e2]) rfl (by kernel_rfl) (by kernel_rfl) (by kernel_rfl) (fun _ _ _ h => h) rfl (Or.inl ⟨by rfl, by intro w9 _; go_simp⟩) (And.intro (Q.out.row 0) (Q.out.row 1)) ?_
          simp only [Act.put, List.setIfInBounds_toArray, List.set_cons_zero, List.set_cons_succ]
          refine wpAnyH_take_at (i := 7) (d := 65) (v := .agg (accA c0 c1 c2 c3 c4 c5 c6 c7)) rfl (by kernel_rfl) (by kernel_rfl) (by kernel_rfl) (fun _ _ _ h => h) rfl (Or.inl ⟨by rfl, by intro w9 _; go_simp; rfl⟩) (And.intro (Q.out.row 0) (Q.out.row 1)) ?_
          simp only [Act.put, List.setIfInBounds_toArray, List.set_cons_zero, List.set_cons_succ]
          refine wpAnyH_take_at (i := 8) (d := 66) (v := .int .i64 e2) rfl (by kernel_rfl) (by kernel_rfl) (by kernel_rfl) (fun _ _ _ h => h) rfl (Or.inl ⟨by rfl, by intro w9 _; go_simp⟩) (And.intro (Q.out.row 0) (Q.out.row 1)) ?_
          simp only [Act.put, List.setIfInBounds_toArray, List.set_cons_zero, List.set_cons_succ]
        case' inl =>
          refine wpOp_call (d := 63) (f := 13) (args := #[.agg (freA fs fn fp fr)]) rfl (by rfl) rfl (by go_simp) ((FR.out _).mono ?_)
          rintro e v ⟨rfl, hb⟩
          have Q := Lib.hid (Q.out.on hb)
          refine ⟨_, rfl, And.intro (Q.out.row 0) (Q.out.row 1), ?_⟩
          simp only [Act.put, List.setIfInBounds_toArray, List.set_cons_zero, List.set_cons_succ]
          refine wpAnyH_all (rs := [5, 9]) (by kernel_rfl) (by simp) ?_
          intro j hj
          rcases List.mem_cons.1 hj with rfl | hj
          case' inr =>
            rw [List.mem_singleton.1 hj]
            have Q := Lib.hid (show Rw w _ (v.alloc (.cells #[.string ⟨#[]⟩, .string ⟨#[]⟩, .int .i64 0, .int .i64 0, .string ⟨#[]⟩, .string ⟨#[]⟩, .string ⟨#[]⟩, .string ⟨#[]⟩] 32 (0, 0))) from Q.out.alloc (accA ⟨#[]⟩ ⟨#[]⟩ 0 0 ⟨#[]⟩ ⟨#[]⟩ ⟨#[]⟩ ⟨#[]⟩) 32)
            refine wpOp_mk (d := 15) (v := .pointer (some ⟨v.heap.size, 0, none⟩)) (w2 := v.alloc _) rfl (by rfl) rfl (by go_simp) ⟨And.intro (Q.out.row 0) (Q.out.row 1), ?_⟩
            simp only [Act.put, List.setIfInBounds_toArray, List.set_cons_zero, List.set_cons_succ]
            generalize v.heap.size = gx at Q ⊢
            generalize v.alloc _ = v at Q ⊢
            refine wpAnyH_all (rs := [5]) (by kernel_rfl) (by simp) (List.forall_mem_singleton.2 ?_)
            refine wpOp_call (d := 64) (f := 14) (args := #[.agg #[.string a0, .string a1, .int .i64 a2, .int .i64 a3, .string a4, .string a5, .string a6, .string a7], .string old, .agg #[.string fs, .string fn, .string fp, .int .i64 fr]]) rfl (by rfl) rfl (by go_simp) ((RRO.out _).mono ?_)
            rintro e v ⟨rfl, hb⟩
            have Q := Lib.hid (Q.out.on hb)
            refine ⟨_, rfl, And.intro (Q.out.row 0) (Q.out.row 1), ?_⟩
            simp only [Act.put, List.setIfInBounds_toArray, List.set_cons_zero, List.set_cons_succ]
            refine wpAnyH_take_at (i := 6) (d := 58) (v := .tuple #[.agg #[.string c0, .string c1, .int .i64 c2, .int .i64 c3, .string c4, .string c5, .string c6, .string c7], .int .i64 e2]) rfl (by kernel_rfl) (by kernel_rfl) (by kernel_rfl) (fun _ _ _ h => h) rfl (Or.inl ⟨by rfl, by intro w9 _; go_simp⟩) (And.intro (Q.out.row 0) (Q.out.row 1)) ?_
            simp only [Act.put, List.setIfInBounds_toArray, List.set_cons_zero, List.set_cons_succ]
            refine wpAnyH_take_at (i := 7) (d := 65) (v := .agg (accA c0 c1 c2 c3 c4 c5 c6 c7)) rfl (by kernel_rfl) (by kernel_rfl) (by kernel_rfl) (fun _ _ _ h => h) rfl (Or.inl ⟨by rfl, by intro w9 _; go_simp; rfl⟩) (And.intro (Q.out.row 0) (Q.out.row 1)) ?_
            simp only [Act.put, List.setIfInBounds_toArray, List.set_cons_zero, List.set_cons_succ]
            refine wpAnyH_take_at (i := 8) (d := 66) (v := .int .i64 e2) rfl (by kernel_rfl) (by kernel_rfl) (by kernel_rfl) (fun _ _ _ h => h) rfl (Or.inl ⟨by rfl, by intro w9 _; go_simp⟩) (And.intro (Q.out.row 0) (Q.out.row 1)) ?_
            simp only [Act.put, List.setIfInBounds_toArray, List.set_cons_zero, List.set_cons_succ]
          case' inl =>
            refine wpOp_call (d := 64) (f := 14) (args := #[.agg #[.string a0, .string a1, .int .i64 a2, .int .i64 a3, .string a4, .string a5, .string a6, .string a7], .string old, .agg #[.string fs, .string fn, .string fp, .int .i64 fr]]) rfl (by rfl) rfl (by go_simp) ((RRO.out _).mono ?_)
            rintro e v ⟨rfl, hb⟩
            have Q := Lib.hid (Q.out.on hb)
            refine ⟨_, rfl, And.intro (Q.out.row 0) (Q.out.row 1), ?_⟩
            simp only [Act.put, List.setIfInBounds_toArray, List.set_cons_zero, List.set_cons_succ]
            refine wpAnyH_take_at (i := 6) (d := 58) (v := .tuple #[.agg #[.string c0, .string c1, .int .i64 c2, .int .i64 c3, .string c4, .string c5, .string c6, .string c7], .int .i64 e2]) rfl (by kernel_rfl) (by kernel_rfl) (by kernel_rfl) (fun _ _ _ h => h) rfl (Or.inl ⟨by rfl, by intro w9 _; go_simp⟩) (And.intro (Q.out.row 0) (Q.out.row 1)) ?_
            simp only [Act.put, List.setIfInBounds_toArray, List.set_cons_zero, List.set_cons_succ]
            refine wpAnyH_take_at (i := 7) (d := 65) (v := .agg (accA c0 c1 c2 c3 c4 c5 c6 c7)) rfl (by kernel_rfl) (by kernel_rfl) (by kernel_rfl) (fun _ _ _ h => h) rfl (Or.inl ⟨by rfl, by intro w9 _; go_simp; rfl⟩) (And.intro (Q.out.row 0) (Q.out.row 1)) ?_
            simp only [Act.put, List.setIfInBounds_toArray, List.set_cons_zero, List.set_cons_succ]
            refine wpAnyH_take_at (i := 8) (d := 66) (v := .int .i64 e2) rfl (by kernel_rfl) (by kernel_rfl) (by kernel_rfl) (fun _ _ _ h => h) rfl (Or.inl ⟨by rfl, by intro w9 _; go_simp⟩) (And.intro (Q.out.row 0) (Q.out.row 1)) ?_
            simp only [Act.put, List.setIfInBounds_toArray, List.set_cons_zero, List.set_cons_succ]
            refine wpAnyH_all (rs := [9]) (by kernel_rfl) (by simp) (List.forall_mem_singleton.2 ?_)
            have Q := Lib.hid (show Rw w _ (v.alloc (.cells #[.string ⟨#[]⟩, .string ⟨#[]⟩, .int .i64 0, .int .i64 0, .string ⟨#[]⟩, .string ⟨#[]⟩, .string ⟨#[]⟩, .string ⟨#[]⟩] 32 (0, 0))) from Q.out.alloc (accA ⟨#[]⟩ ⟨#[]⟩ 0 0 ⟨#[]⟩ ⟨#[]⟩ ⟨#[]⟩ ⟨#[]⟩) 32)
            refine wpOp_mk (d := 15) (v := .pointer (some ⟨v.heap.size, 0, none⟩)) (w2 := v.alloc _) rfl (by rfl) rfl (by go_simp) ⟨And.intro (Q.out.row 0) (Q.out.row 1), ?_⟩
            simp only [Act.put, List.setIfInBounds_toArray, List.set_cons_zero, List.set_cons_succ]
            generalize v.heap.size = gx at Q ⊢
            generalize v.alloc _ = v at Q ⊢
      all_goals
        have Q2 := Lib.hid (Q.out.store 5 (accA c0 c1 c2 c3 c4 c5 c6 c7))
        refine wpAnyH_all (rs := [10]) (by kernel_rfl) (by simp) (List.forall_mem_singleton.2 ?_)
        refine wpOp_store rfl rfl rfl 32 (.tmp 15) (.tmp 65) rfl gx (accA c0 c1 c2 c3 c4 c5 c6 c7) rfl rfl 32 (accA ⟨#[]⟩ ⟨#[]⟩ 0 0 ⟨#[]⟩ ⟨#[]⟩ ⟨#[]⟩ ⟨#[]⟩) (Q.out.row 5) IR.out rfl (one_accA _ _ _ _ _ _ _ _) ⟨And.intro (Q2.out.row 0) (Q2.out.row 1), ?_⟩
        refine wpAnyH_all (rs := [11]) (by kernel_rfl) (by simp) (List.forall_mem_singleton.2 ?_)
        refine wpOp_assign (d := 16) (s := 66) (v := .int .i64 e2) rfl rfl rfl rfl rfl ⟨And.intro (Q2.out.row 0) (Q2.out.row 1), ?_⟩
        simp only [Act.put, List.setIfInBounds_toArray, List.set_cons_zero, List.set_cons_succ]
        refine wpAnyH_done (by kernel_rfl) ?_ _
        go_wp2_with fail
        go_meet
        exact ⟨gx, rfl, rfl, Q2.out⟩
    case rest =>
      obtain ⟨gy, rfl, rfl, hR⟩ := hcut
      have R7 := Lib.hid hR
      clear hR R6
      obtain ⟨k0, k1, k2, k3, k4, k5, k6, k7⟩ := acc_cells R7.out
      have R8 := Lib.hid (show Rw w _ (wc.alloc (.cells #[.string a0, .string a1, .int .i64 a2, .int .i64 a3, .string a4, .string a5, .string a6, .string ⟨#[]⟩] 23 (0, 0))) from R7.out.alloc (accA a0 a1 a2 a3 a4 a5 a6 ⟨#[]⟩) 23)
      go_upto_region 9 with fail
      clear k0 k1 k2 k3 k4 k5 k6 k7 R7
      generalize wc.heap.size = gd at *
      generalize wc.alloc (.cells #[.string a0, .string a1, .int .i64 a2, .int .i64 a3, .string a4, .string a5, .string a6, .string ⟨#[]⟩] 23 (0, 0)) = we at *
      have RG := Lib.hid (fun p : BW we => R8.out.on p.2)
      have ka := fun p : BW we => acc_cellsI (RG.out p) 0 rfl
      have kb := fun p : BW we => acc_cellsI (RG.out p) 2 rfl
      have kc := fun p : BW we => acc_cellsI (RG.out p) 3 rfl
      have kx := fun p : BW we => acc_cellsI (RG.out p) 4 rfl
      have ky := fun p : BW we => acc_cellsI (RG.out p) 5 rfl
      have kd := fun p : BW we => acc_cellsI (RG.out p) 6 rfl
      refine wp_region_below (by kernel_rfl) (by kernel_rfl) ?_
      repeat (go_big_quiet_step (first | exact calls_below (RFB.out _) | exact calls_below (RFC.out _) | exact calls_below (FI.out _) | exact calls_below (AW.out _)))
      refine wpQuiet_nil ?_
      rintro _ ⟨p, rfl⟩
      have R9 := Lib.hid (RG.out p)
      generalize p.1 = wf at R9 ⊢
      clear ka kb kc kx ky kd RG R8
      go_wp2_with fail
      go_ret
      exact ⟨rfl, hga ▸ R9.out.bel⟩
theorem turns_any (a : Acc) (old pw : ByteArray) (f : Fre) (w : World) (G : Glob w) :
    Calls Tryz.prog 3 #[a.v, .string old, .string pw, f.v] w fun e w' => e = .returned (.bool true) ∧ Below w.heap.size w w' := by
  have S1 := fun w => short2_any a f w
  cases h1 : short2 a f with
  | false =>
    rw [h1] at S1
    exact turns_a a old pw f.salt f.nonce f.priv f.rounds w G S1
  | true =>
  have hus : a.user.size ≤ 1000 := by
    unfold short2 at h1
    simp only [decide_eq_true_eq] at h1
    omega
  rw [h1] at S1
  by_cases ho : 100 < old.size
  · exact turns_b a old pw f.salt f.nonce f.priv f.rounds ho w G S1
  by_cases hp : 100 < pw.size
  · exact turns_c a old pw f.salt f.nonce f.priv f.rounds (by omega) hp w G S1
  have CH := fun w G => change_any a old pw f w (by omega) (by omega) G
  have RO := fun w G => rotate_any a old f w (by omega) G
  have RCH := fun w => rchange_any a old pw f w hus (by omega) (by omega)
  have RRO := fun w => rrotate_any a old f w hus (by omega)
  exact turns_main a (chgB a old pw f).1 (rotB a old f).1 old pw f.salt f.nonce f.priv f.rounds (chgB a old pw f).2 (rotB a old f).2 (by omega) (by omega) w G S1 CH RO RCH RRO
    (fun w => refAcc_any a w) (fun w => refAcc_any _ w) (fun w => refAcc_any _ w) (fun w => fresh_any f w) (fun w => finish_any a w)
end Go.Proofs.YtfckjilhkdlpfaaGreatDoor
