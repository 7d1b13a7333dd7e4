/-
  The law RingMakes: the walks.
-/
import Derived.Test.YtfckjilhkdlpfaaGreatDoorRqC
import Derived.Test.YtfckjilhkdlpfaaGreatDoorRkJ
namespace Go.Proofs.YtfckjilhkdlpfaaGreatDoor
open Go.RowKit MS

set_option maxRecDepth 1000000 in
set_option maxHeartbeats 8000000 in
theorem makes_a (user pw fs fn fp : ByteArray) (fr : Int) (w : World) (G : Glob w) (S1 : ∀ w, Calls Tryz.prog 7 #[.agg #[.string user, .string ⟨#[]⟩, .int .i64 0, .int .i64 0, .string ⟨#[]⟩, .string ⟨#[]⟩, .string ⟨#[]⟩, .string ⟨#[]⟩], .agg #[.string fs, .string fn, .string fp, .int .i64 fr]] w fun e w' => e = .returned (.bool false) ∧ Below w.heap.size w w')  :
    Calls Tryz.prog 4 #[.string user, .string pw, .agg #[.string fs, .string fn, .string fp, .int .i64 fr]] w fun e w' => e = .returned (.bool true) ∧ Below w.heap.size w w' := by
  have S1 := Lib.hid S1
  have AW := Lib.hid (fun w => awake13_any w)
  have HG := Lib.hid G
  have R0 := Lib.hid (show Rw w [(w.heap.size, freA fs fn fp fr, 25)] (w.alloc (.cells #[.string fs, .string fn, .string fp, .int .i64 fr] 25 (0, 0))) from (Rw.nil w).alloc (freA fs fn fp fr) 25)
  clear G
  go_enter Tryz.func4, Tryz.ntmps4
  go_upto_region 1 with fail
  generalize w.alloc (.cells #[.string fs, .string fn, .string fp, .int .i64 fr] 25 (0, 0)) = W at R0 ⊢
  generalize hgf : w.heap.size = gf at *
  obtain ⟨c0, c1, c2, c3⟩ := fre_cells R0.out 0 rfl
  go_wp2_with fail
  refine (S1.out _).mono ?_
  rintro e w1 ⟨rfl, hb⟩
  have R1 := Lib.hid (R0.out.on hb)
  clear hb c0 c1 c2 c3 R0 
  go_wp2_with fail
  refine (AW.out _).mono ?_
  rintro e w9 ⟨rfl, hb⟩
  have RZ := Lib.hid (R1.out.on hb)
  clear hb
  go_wp2_with fail
  go_ret
  exact ⟨rfl, hgf ▸ RZ.out.bel⟩
set_option maxRecDepth 1000000 in
set_option maxHeartbeats 8000000 in
theorem makes_b (user pw fs fn fp : ByteArray) (fr : Int) (w : World) (G : Glob w) (S1 : ∀ w, Calls Tryz.prog 7 #[.agg #[.string user, .string ⟨#[]⟩, .int .i64 0, .int .i64 0, .string ⟨#[]⟩, .string ⟨#[]⟩, .string ⟨#[]⟩, .string ⟨#[]⟩], .agg #[.string fs, .string fn, .string fp, .int .i64 fr]] w fun e w' => e = .returned (.bool true) ∧ Below w.heap.size w w') (hp : 100 < pw.size) :
    Calls Tryz.prog 4 #[.string user, .string pw, .agg #[.string fs, .string fn, .string fp, .int .i64 fr]] w fun e w' => e = .returned (.bool true) ∧ Below w.heap.size w w' := by
  have S1 := Lib.hid S1
  have AW := Lib.hid (fun w => awake13_any w)
  have HG := Lib.hid G
  have R0 := Lib.hid (show Rw w [(w.heap.size, freA fs fn fp fr, 25)] (w.alloc (.cells #[.string fs, .string fn, .string fp, .int .i64 fr] 25 (0, 0))) from (Rw.nil w).alloc (freA fs fn fp fr) 25)
  have p1 : (pw.size : Int) > 100 := by omega
  clear hp
  clear G
  go_enter Tryz.func4, Tryz.ntmps4
  go_upto_region 1 with fail
  generalize w.alloc (.cells #[.string fs, .string fn, .string fp, .int .i64 fr] 25 (0, 0)) = W at R0 ⊢
  generalize hgf : w.heap.size = gf at *
  obtain ⟨c0, c1, c2, c3⟩ := fre_cells R0.out 0 rfl
  go_wp2_with fail
  refine (S1.out _).mono ?_
  rintro e w1 ⟨rfl, hb⟩
  have R1 := Lib.hid (R0.out.on hb)
  clear hb c0 c1 c2 c3 R0 
  go_wp2_with fail
  refine (AW.out _).mono ?_
  rintro e w9 ⟨rfl, hb⟩
  have RZ := Lib.hid (R1.out.on hb)
  clear hb
  go_wp2_with fail
  go_ret
  exact ⟨rfl, hgf ▸ RZ.out.bel⟩
set_option maxRecDepth 1000000 in
set_option maxHeartbeats 8000000 in
theorem makes_no (user pw fs fn fp : ByteArray) (fr : Int) (w : World) (G : Glob w) (S1 : ∀ w, Calls Tryz.prog 7 #[.agg #[.string user, .string ⟨#[]⟩, .int .i64 0, .int .i64 0, .string ⟨#[]⟩, .string ⟨#[]⟩, .string ⟨#[]⟩, .string ⟨#[]⟩], .agg #[.string fs, .string fn, .string fp, .int .i64 fr]] w fun e w' => e = .returned (.bool true) ∧ Below w.heap.size w w') (M : ∀ w, Glob w → Calls Tryz.prog 16 #[.string user, .string pw, .agg #[.string fs, .string fn, .string fp, .int .i64 fr]] w fun e w' => e = .returned (.tuple #[noAcc.v, .int .i64 1]) ∧ Below w.heap.size w w') (RM : ∀ w, Calls Tryz.prog 17 #[.string user, .string pw, .agg #[.string fs, .string fn, .string fp, .int .i64 fr]] w fun e w' => e = .returned (.tuple #[noAcc.v, .bool false]) ∧ Below w.heap.size w w') (FR : ∀ w, Calls Tryz.prog 13 #[.agg #[.string fs, .string fn, .string fp, .int .i64 fr]] w fun e w' => e = .returned (.agg #[.string fs, .string fn, .string fp, .int .i64 fr]) ∧ Below w.heap.size w w') (hp : pw.size ≤ 100) :
    Calls Tryz.prog 4 #[.string user, .string pw, .agg #[.string fs, .string fn, .string fp, .int .i64 fr]] w fun e w' => e = .returned (.bool true) ∧ Below w.heap.size w w' := by
  unfold noAcc bs Acc.v at *
  simp only at *
  have S1 := Lib.hid S1
  have M := Lib.hid M
  have RM := Lib.hid RM
  have FR := Lib.hid FR
  have AW := Lib.hid (fun w => awake13_any w)
  have HG := Lib.hid G
  have R0 := Lib.hid (show Rw w [(w.heap.size, freA fs fn fp fr, 25)] (w.alloc (.cells #[.string fs, .string fn, .string fp, .int .i64 fr] 25 (0, 0))) from (Rw.nil w).alloc (freA fs fn fp fr) 25)
  have p1 : ¬ (pw.size : Int) > 100 := by omega
  clear hp
  clear G
  go_enter Tryz.func4, Tryz.ntmps4
  go_upto_region 1 with fail
  generalize w.alloc (.cells #[.string fs, .string fn, .string fp, .int .i64 fr] 25 (0, 0)) = W at R0 ⊢
  generalize hgf : w.heap.size = gf at *
  obtain ⟨c0, c1, c2, c3⟩ := fre_cells R0.out 0 rfl
  go_wp2_with fail
  refine (S1.out _).mono ?_
  rintro e w1 ⟨rfl, hb⟩
  have R1 := Lib.hid (R0.out.on hb)
  clear hb c0 c1 c2 c3 R0 
  obtain ⟨c0, c1, c2, c3⟩ := fre_cells R1.out 0 rfl
  have G1 := Lib.hid (HG.out.on R1.out.bel)
  go_wp2_with fail
  refine (M.out _ G1.out).mono ?_
  rintro e w2 ⟨rfl, hb⟩
  have R2 := Lib.hid (R1.out.on hb)
  clear hb c0 c1 c2 c3 R1 
  have R3 := Lib.hid (show Rw w _ (w2.alloc (.cells #[.string ⟨#[]⟩, .string ⟨#[]⟩, .int .i64 0, .int .i64 0, .string ⟨#[]⟩, .string ⟨#[]⟩, .string ⟨#[]⟩, .string ⟨#[]⟩] 23 (0, 0))) from R2.out.alloc (accA ⟨#[]⟩ ⟨#[]⟩ 0 0 ⟨#[]⟩ ⟨#[]⟩ ⟨#[]⟩ ⟨#[]⟩) 23)
  go_upto_region 4 with fail
  clear R2
  generalize w2.heap.size = ga at *
  generalize w2.alloc (.cells #[.string ⟨#[]⟩, .string ⟨#[]⟩, .int .i64 0, .int .i64 0, .string ⟨#[]⟩, .string ⟨#[]⟩, .string ⟨#[]⟩, .string ⟨#[]⟩] 23 (0, 0)) = w2s at *
  obtain ⟨c0, c1, c2, c3⟩ := fre_cells R3.out 0 rfl
  go_wp2_with fail
  refine (FR.out _).mono ?_
  rintro e w3 ⟨rfl, hb⟩
  have R4 := Lib.hid (R3.out.on hb)
  clear hb c0 c1 c2 c3 R3 
  go_wp2_with fail
  refine (RM.out _).mono ?_
  rintro e w4 ⟨rfl, hb⟩
  have R5 := Lib.hid (R4.out.on hb)
  clear hb  R4 
  have R6 := Lib.hid (show Rw w _ (w4.alloc (.cells #[.string ⟨#[]⟩, .string ⟨#[]⟩, .int .i64 0, .int .i64 0, .string ⟨#[]⟩, .string ⟨#[]⟩, .string ⟨#[]⟩, .string ⟨#[]⟩] 32 (0, 0))) from R5.out.alloc (accA ⟨#[]⟩ ⟨#[]⟩ 0 0 ⟨#[]⟩ ⟨#[]⟩ ⟨#[]⟩ ⟨#[]⟩) 32)
  go_upto_region 6 with fail
  clear R5
  generalize w4.heap.size = gb at *
  generalize w4.alloc (.cells #[.string ⟨#[]⟩, .string ⟨#[]⟩, .int .i64 0, .int .i64 0, .string ⟨#[]⟩, .string ⟨#[]⟩, .string ⟨#[]⟩, .string ⟨#[]⟩] 32 (0, 0)) = w4s at *
  have a0 := R6.out.cell 1 0 (cs := accA ⟨#[]⟩ ⟨#[]⟩ 0 0 ⟨#[]⟩ ⟨#[]⟩ ⟨#[]⟩ ⟨#[]⟩) (v := .string ⟨#[]⟩) rfl
  have a1 := R6.out.cell 1 1 (cs := accA ⟨#[]⟩ ⟨#[]⟩ 0 0 ⟨#[]⟩ ⟨#[]⟩ ⟨#[]⟩ ⟨#[]⟩) (v := .string ⟨#[]⟩) rfl
  have a2 := R6.out.cell 1 2 (cs := accA ⟨#[]⟩ ⟨#[]⟩ 0 0 ⟨#[]⟩ ⟨#[]⟩ ⟨#[]⟩ ⟨#[]⟩) (v := .int .i64 0) rfl
  have a3 := R6.out.cell 1 3 (cs := accA ⟨#[]⟩ ⟨#[]⟩ 0 0 ⟨#[]⟩ ⟨#[]⟩ ⟨#[]⟩ ⟨#[]⟩) (v := .int .i64 0) rfl
  have a4 := R6.out.cell 1 4 (cs := accA ⟨#[]⟩ ⟨#[]⟩ 0 0 ⟨#[]⟩ ⟨#[]⟩ ⟨#[]⟩ ⟨#[]⟩) (v := .string ⟨#[]⟩) rfl
  have a5 := R6.out.cell 1 5 (cs := accA ⟨#[]⟩ ⟨#[]⟩ 0 0 ⟨#[]⟩ ⟨#[]⟩ ⟨#[]⟩ ⟨#[]⟩) (v := .string ⟨#[]⟩) rfl
  have a6 := R6.out.cell 1 6 (cs := accA ⟨#[]⟩ ⟨#[]⟩ 0 0 ⟨#[]⟩ ⟨#[]⟩ ⟨#[]⟩ ⟨#[]⟩) (v := .string ⟨#[]⟩) rfl
  have a7 := R6.out.cell 1 7 (cs := accA ⟨#[]⟩ ⟨#[]⟩ 0 0 ⟨#[]⟩ ⟨#[]⟩ ⟨#[]⟩ ⟨#[]⟩) (v := .string ⟨#[]⟩) rfl
  go_wp2_with fail
  refine (AW.out _).mono ?_
  rintro e w9 ⟨rfl, hb⟩
  have RZ := Lib.hid (R6.out.on hb)
  clear hb
  go_wp2_with fail
  go_ret
  exact ⟨rfl, hgf ▸ RZ.out.bel⟩
set_option maxRecDepth 1000000 in
set_option maxHeartbeats 8000000 in
theorem makes_yes (user pw fs fn fp : ByteArray) (fr : Int) (q : Acc) (w : World) (G : Glob w) (S1 : ∀ w, Calls Tryz.prog 7 #[.agg #[.string user, .string ⟨#[]⟩, .int .i64 0, .int .i64 0, .string ⟨#[]⟩, .string ⟨#[]⟩, .string ⟨#[]⟩, .string ⟨#[]⟩], .agg #[.string fs, .string fn, .string fp, .int .i64 fr]] w fun e w' => e = .returned (.bool true) ∧ Below w.heap.size w w') (M : ∀ w, Glob w → Calls Tryz.prog 16 #[.string user, .string pw, .agg #[.string fs, .string fn, .string fp, .int .i64 fr]] w fun e w' => e = .returned (.tuple #[q.v, .int .i64 0]) ∧ Below w.heap.size w w') (RM : ∀ w, Calls Tryz.prog 17 #[.string user, .string pw, .agg #[.string fs, .string fn, .string fp, .int .i64 fr]] w fun e w' => e = .returned (.tuple #[q.v, .bool true]) ∧ Below w.heap.size w w') (FR : ∀ w, Calls Tryz.prog 13 #[.agg #[.string fs, .string fn, .string fp, .int .i64 fr]] w fun e w' => e = .returned (.agg #[.string fs, .string fn, .string fp, .int .i64 fr]) ∧ Below w.heap.size w w') (RAc : ∀ w, Calls Tryz.prog 12 #[q.v] w fun e w' => e = .returned q.v ∧ Below w.heap.size w w') (hp : pw.size ≤ 100) :
    Calls Tryz.prog 4 #[.string user, .string pw, .agg #[.string fs, .string fn, .string fp, .int .i64 fr]] w fun e w' => e = .returned (.bool true) ∧ Below w.heap.size w w' := by
  obtain ⟨q0, q1, q2, q3, q4, q5, q6, q7⟩ := q
  unfold Acc.v at *
  simp only at *
  have S1 := Lib.hid S1
  have M := Lib.hid M
  have RM := Lib.hid RM
  have FR := Lib.hid FR
  have RAc := Lib.hid RAc
  have AW := Lib.hid (fun w => awake13_any w)
  have HG := Lib.hid G
  have R0 := Lib.hid (show Rw w [(w.heap.size, freA fs fn fp fr, 25)] (w.alloc (.cells #[.string fs, .string fn, .string fp, .int .i64 fr] 25 (0, 0))) from (Rw.nil w).alloc (freA fs fn fp fr) 25)
  have p1 : ¬ (pw.size : Int) > 100 := by omega
  clear hp
  clear G
  go_enter Tryz.func4, Tryz.ntmps4
  go_upto_region 1 with fail
  generalize w.alloc (.cells #[.string fs, .string fn, .string fp, .int .i64 fr] 25 (0, 0)) = W at R0 ⊢
  generalize hgf : w.heap.size = gf at *
  obtain ⟨c0, c1, c2, c3⟩ := fre_cells R0.out 0 rfl
  go_wp2_with fail
  refine (S1.out _).mono ?_
  rintro e w1 ⟨rfl, hb⟩
  have R1 := Lib.hid (R0.out.on hb)
  clear hb c0 c1 c2 c3 R0 
  obtain ⟨c0, c1, c2, c3⟩ := fre_cells R1.out 0 rfl
  have G1 := Lib.hid (HG.out.on R1.out.bel)
  go_wp2_with fail
  refine (M.out _ G1.out).mono ?_
  rintro e w2 ⟨rfl, hb⟩
  have R2 := Lib.hid (R1.out.on hb)
  clear hb c0 c1 c2 c3 R1 
  have R3 := Lib.hid (show Rw w _ (w2.alloc (.cells #[.string q0, .string q1, .int .i64 q2, .int .i64 q3, .string q4, .string q5, .string q6, .string q7] 23 (0, 0))) from R2.out.alloc (accA q0 q1 q2 q3 q4 q5 q6 q7) 23)
  go_upto_region 4 with fail
  clear R2
  generalize w2.heap.size = ga at *
  generalize w2.alloc (.cells #[.string q0, .string q1, .int .i64 q2, .int .i64 q3, .string q4, .string q5, .string q6, .string q7] 23 (0, 0)) = w2s at *
  obtain ⟨c0, c1, c2, c3⟩ := fre_cells R3.out 0 rfl
  go_wp2_with fail
  refine (FR.out _).mono ?_
  rintro e w3 ⟨rfl, hb⟩
  have R4 := Lib.hid (R3.out.on hb)
  clear hb c0 c1 c2 c3 R3 
  go_wp2_with fail
  refine (RM.out _).mono ?_
  rintro e w4 ⟨rfl, hb⟩
  have R5 := Lib.hid (R4.out.on hb)
  clear hb  R4 
  have R6 := Lib.hid (show Rw w _ (w4.alloc (.cells #[.string q0, .string q1, .int .i64 q2, .int .i64 q3, .string q4, .string q5, .string q6, .string q7] 32 (0, 0))) from R5.out.alloc (accA q0 q1 q2 q3 q4 q5 q6 q7) 32)
  go_upto_region 7 with fail
  clear R5
  generalize w4.heap.size = gb at *
  generalize w4.alloc (.cells #[.string q0, .string q1, .int .i64 q2, .int .i64 q3, .string q4, .string q5, .string q6, .string q7] 32 (0, 0)) = w4s at *
  have RG := Lib.hid (fun p : BW w4s => R6.out.on p.2)
  have a0 := fun p : BW w4s => (RG.out p).cell 1 0 (cs := accA q0 q1 q2 q3 q4 q5 q6 q7) (v := .string q0) rfl
  have b0 := fun p : BW w4s => (RG.out p).cell 2 0 (cs := accA q0 q1 q2 q3 q4 q5 q6 q7) (v := .string q0) rfl
  have a1 := fun p : BW w4s => (RG.out p).cell 1 1 (cs := accA q0 q1 q2 q3 q4 q5 q6 q7) (v := .string q1) rfl
  have b1 := fun p : BW w4s => (RG.out p).cell 2 1 (cs := accA q0 q1 q2 q3 q4 q5 q6 q7) (v := .string q1) rfl
  have a2 := fun p : BW w4s => (RG.out p).cell 1 2 (cs := accA q0 q1 q2 q3 q4 q5 q6 q7) (v := .int .i64 q2) rfl
  have b2 := fun p : BW w4s => (RG.out p).cell 2 2 (cs := accA q0 q1 q2 q3 q4 q5 q6 q7) (v := .int .i64 q2) rfl
  have a3 := fun p : BW w4s => (RG.out p).cell 1 3 (cs := accA q0 q1 q2 q3 q4 q5 q6 q7) (v := .int .i64 q3) rfl
  have b3 := fun p : BW w4s => (RG.out p).cell 2 3 (cs := accA q0 q1 q2 q3 q4 q5 q6 q7) (v := .int .i64 q3) rfl
  have a4 := fun p : BW w4s => (RG.out p).cell 1 4 (cs := accA q0 q1 q2 q3 q4 q5 q6 q7) (v := .string q4) rfl
  have b4 := fun p : BW w4s => (RG.out p).cell 2 4 (cs := accA q0 q1 q2 q3 q4 q5 q6 q7) (v := .string q4) rfl
  have a5 := fun p : BW w4s => (RG.out p).cell 1 5 (cs := accA q0 q1 q2 q3 q4 q5 q6 q7) (v := .string q5) rfl
  have b5 := fun p : BW w4s => (RG.out p).cell 2 5 (cs := accA q0 q1 q2 q3 q4 q5 q6 q7) (v := .string q5) rfl
  have a6 := fun p : BW w4s => (RG.out p).cell 1 6 (cs := accA q0 q1 q2 q3 q4 q5 q6 q7) (v := .string q6) rfl
  have b6 := fun p : BW w4s => (RG.out p).cell 2 6 (cs := accA q0 q1 q2 q3 q4 q5 q6 q7) (v := .string q6) rfl
  have a7 := fun p : BW w4s => (RG.out p).cell 1 7 (cs := accA q0 q1 q2 q3 q4 q5 q6 q7) (v := .string q7) rfl
  have b7 := fun p : BW w4s => (RG.out p).cell 2 7 (cs := accA q0 q1 q2 q3 q4 q5 q6 q7) (v := .string q7) rfl
  refine wp_region_below (by kernel_rfl) (by kernel_rfl) ?_
  repeat (go_big_quiet_step (first | exact calls_below (RAc.out _) | exact calls_below (AW.out _)))
  refine wpQuiet_nil ?_
  rintro _ ⟨p, rfl⟩
  have R7 := Lib.hid (RG.out p)
  generalize p.1 = w6 at R7 ⊢
  clear a0 b0 a1 b1 a2 b2 a3 b3 a4 b4 a5 b5 a6 b6 a7 b7 RG R6
  go_wp2_with fail
  go_ret
  exact ⟨rfl, hgf ▸ R7.out.bel⟩
theorem makes_any (user pw : ByteArray) (f : Fre) (w : World) (G : Glob w) :
    Calls Tryz.prog 4 #[.string user, .string pw, f.v] w fun e w' => e = .returned (.bool true) ∧ Below w.heap.size w w' := by
  have S1 := fun w => short2_any ⟨user, bs [], 0, 0, bs [], bs [], bs [], bs []⟩ f w
  cases h1 : short2 ⟨user, bs [], 0, 0, bs [], bs [], bs [], bs []⟩ f with
  | false =>
    rw [h1] at S1
    exact makes_a user pw f.salt f.nonce f.priv f.rounds w G S1
  | true =>
  have hus : user.size ≤ 1000 := by
    unfold short2 at h1
    simp only [decide_eq_true_eq] at h1
    omega
  rw [h1] at S1
  by_cases hp : 100 < pw.size
  · exact makes_b user pw f.salt f.nonce f.priv f.rounds w G S1 hp
  have M := fun w G => make_any user pw f w (by omega) G
  have RM := fun w => rmake_any user pw f w hus (by omega)
  by_cases hm : usrB user = true ∧ f.ok = true
  · rw [mkB, if_pos hm] at M RM
    simp only at M
    exact makes_yes user pw f.salt f.nonce f.priv f.rounds _ w G S1 M RM (fun w => fresh_any f w) (fun w => refAcc_any _ w) (by omega)
  · rw [mkB, if_neg hm] at M RM
    simp only at M
    exact makes_no user pw f.salt f.nonce f.priv f.rounds w G S1 M RM (fun w => fresh_any f w) (by omega)
end Go.Proofs.YtfckjilhkdlpfaaGreatDoor
