/-
  The law RingKeeps: the walks.
-/
import Derived.Test.YtfckjilhkdlpfaaDoorRkH
import Derived.Test.YtfckjilhkdlpfaaDoorRkE
namespace Go.Proofs.YtfckjilhkdlpfaaDoor
open Go.RowKit MS

/-- Are an account's texts, and what is drawn, short? -/
def short2 (a : Acc) (f : Fre) : Bool := decide (a.user.size ≤ 300 ∧ a.salt.size ≤ 100 ∧ a.pub.size ≤ 100 ∧ a.nonce.size ≤ 100 ∧ a.wrapped.size ≤ 100 ∧ a.old.size ≤ 400 ∧ f.salt.size ≤ 100 ∧ f.nonce.size ≤ 100 ∧ f.priv.size ≤ 100)
set_option maxRecDepth 1000000 in
set_option maxHeartbeats 2000000 in
theorem short2_any (a : Acc) (f : Fre) (w : World) :
    Calls Tryd.prog 10 #[a.v, f.v] w fun e w' => e = .returned (.bool (short2 a f)) ∧ Below w.heap.size w w' := by
  obtain ⟨user, salt, rounds, epoch, pub, nonce, wrapped, old⟩ := a
  obtain ⟨fs, fn, fp, fr⟩ := f
  unfold Acc.v Fre.v
  simp only
  go_enter Tryd.func10, Tryd.ntmps10
  go_wp2_with fail
  all_goals
    go_ret
    refine ⟨?_, below_alloc (below_alloc (Below.refl _ _) _) _⟩
    unfold short2
    simp [*]
    try first
      | omega
      | (rw [Bool.eq_iff_iff]; simp; omega)
theorem rwFF (w : World) (fs fn fp : ByteArray) (fr : Int) (gs gn gp : ByteArray) (gr : Int) (TF TG : TypeId) :
    Rw w [(w.heap.size, freA fs fn fp fr, TF), (w.heap.size + 1, freA gs gn gp gr, TG)]
      ((w.alloc (.cells #[.string fs, .string fn, .string fp, .int .i64 fr] TF (0, 0))).alloc (.cells #[.string gs, .string gn, .string gp, .int .i64 gr] TG (0, 0))) := by
  have h := ((Rw.nil w).alloc (freA fs fn fp fr) TF).alloc (freA gs gn gp gr) TG
  simp only [World.size_alloc] at h
  exact h

set_option maxRecDepth 1000000 in
set_option maxHeartbeats 8000000 in
theorem keeps_a (user pw other fs fn fp gs gn gp : ByteArray) (fr gr : Int) (w : World) (G : Glob w) (S1 : ∀ w, Calls Tryd.prog 10 #[.agg #[.string user, .string ⟨#[]⟩, .int .i64 0, .int .i64 0, .string ⟨#[]⟩, .string ⟨#[]⟩, .string ⟨#[]⟩, .string ⟨#[]⟩], .agg #[.string fs, .string fn, .string fp, .int .i64 fr]] w fun e w' => e = .returned (.bool false) ∧ Below w.heap.size w w')  :
    Calls Tryd.prog 3 #[.string user, .string pw, .string other, .agg #[.string fs, .string fn, .string fp, .int .i64 fr], .agg #[.string gs, .string gn, .string gp, .int .i64 gr]] w fun e w' => e = .returned (.bool true) ∧ Below w.heap.size w w' := by
  have S1 := Lib.hid S1
  have AW := Lib.hid (fun w => awake13_any w)
  have HG := Lib.hid G
  have R0 := Lib.hid (rwFF w fs fn fp fr gs gn gp gr 23 23)
  clear G
  go_enter Tryd.func3, Tryd.ntmps3
  go_upto_region 1 with fail
  generalize (w.alloc (.cells #[.string fs, .string fn, .string fp, .int .i64 fr] 23 (0, 0))).alloc _ = W at R0 ⊢
  generalize hgf : w.heap.size = gf at *
  generalize hgg : gf + 1 = gg at *
  obtain ⟨c0, c1, c2, c3⟩ := fre_cells R0.out 0 rfl
  obtain ⟨d0, d1, d2, d3⟩ := fre_cells R0.out 1 rfl
  go_wp2_with fail
  refine (S1.out _).mono ?_
  rintro e w1 ⟨rfl, hb⟩
  have R1 := Lib.hid (R0.out.on hb)
  clear hb c0 c1 c2 c3 d0 d1 d2 d3 R0 
  go_wp2_with fail
  refine (AW.out _).mono ?_
  rintro e w9 ⟨rfl, hb⟩
  have RZ := Lib.hid (R1.out.on hb)
  clear hb
  go_wp2_with fail
  go_ret
  exact ⟨rfl, hgf ▸ RZ.out.bel⟩
set_option maxRecDepth 1000000 in
set_option maxHeartbeats 8000000 in
theorem keeps_b (user pw other fs fn fp gs gn gp : ByteArray) (fr gr : Int) (w : World) (G : Glob w) (S1 : ∀ w, Calls Tryd.prog 10 #[.agg #[.string user, .string ⟨#[]⟩, .int .i64 0, .int .i64 0, .string ⟨#[]⟩, .string ⟨#[]⟩, .string ⟨#[]⟩, .string ⟨#[]⟩], .agg #[.string fs, .string fn, .string fp, .int .i64 fr]] w fun e w' => e = .returned (.bool true) ∧ Below w.heap.size w w') (S2 : ∀ w, Calls Tryd.prog 10 #[.agg #[.string ⟨#[]⟩, .string ⟨#[]⟩, .int .i64 0, .int .i64 0, .string ⟨#[]⟩, .string ⟨#[]⟩, .string ⟨#[]⟩, .string ⟨#[]⟩], .agg #[.string gs, .string gn, .string gp, .int .i64 gr]] w fun e w' => e = .returned (.bool false) ∧ Below w.heap.size w w')  :
    Calls Tryd.prog 3 #[.string user, .string pw, .string other, .agg #[.string fs, .string fn, .string fp, .int .i64 fr], .agg #[.string gs, .string gn, .string gp, .int .i64 gr]] w fun e w' => e = .returned (.bool true) ∧ Below w.heap.size w w' := by
  have S1 := Lib.hid S1
  have S2 := Lib.hid S2
  have AW := Lib.hid (fun w => awake13_any w)
  have HG := Lib.hid G
  have R0 := Lib.hid (rwFF w fs fn fp fr gs gn gp gr 23 23)
  clear G
  go_enter Tryd.func3, Tryd.ntmps3
  go_upto_region 1 with fail
  generalize (w.alloc (.cells #[.string fs, .string fn, .string fp, .int .i64 fr] 23 (0, 0))).alloc _ = W at R0 ⊢
  generalize hgf : w.heap.size = gf at *
  generalize hgg : gf + 1 = gg at *
  obtain ⟨c0, c1, c2, c3⟩ := fre_cells R0.out 0 rfl
  obtain ⟨d0, d1, d2, d3⟩ := fre_cells R0.out 1 rfl
  go_wp2_with fail
  refine (S1.out _).mono ?_
  rintro e w1 ⟨rfl, hb⟩
  have R1 := Lib.hid (R0.out.on hb)
  clear hb c0 c1 c2 c3 d0 d1 d2 d3 R0 
  obtain ⟨c0, c1, c2, c3⟩ := fre_cells R1.out 0 rfl
  obtain ⟨d0, d1, d2, d3⟩ := fre_cells R1.out 1 rfl
  go_wp2_with fail
  refine (S2.out _).mono ?_
  rintro e w2 ⟨rfl, hb⟩
  have R2 := Lib.hid (R1.out.on hb)
  clear hb c0 c1 c2 c3 d0 d1 d2 d3 R1 
  go_wp2_with fail
  refine (AW.out _).mono ?_
  rintro e w9 ⟨rfl, hb⟩
  have RZ := Lib.hid (R2.out.on hb)
  clear hb
  go_wp2_with fail
  go_ret
  exact ⟨rfl, hgf ▸ RZ.out.bel⟩
set_option maxRecDepth 1000000 in
set_option maxHeartbeats 8000000 in
theorem keeps_c (user pw other fs fn fp gs gn gp : ByteArray) (fr gr : Int) (w : World) (G : Glob w) (S1 : ∀ w, Calls Tryd.prog 10 #[.agg #[.string user, .string ⟨#[]⟩, .int .i64 0, .int .i64 0, .string ⟨#[]⟩, .string ⟨#[]⟩, .string ⟨#[]⟩, .string ⟨#[]⟩], .agg #[.string fs, .string fn, .string fp, .int .i64 fr]] w fun e w' => e = .returned (.bool true) ∧ Below w.heap.size w w') (S2 : ∀ w, Calls Tryd.prog 10 #[.agg #[.string ⟨#[]⟩, .string ⟨#[]⟩, .int .i64 0, .int .i64 0, .string ⟨#[]⟩, .string ⟨#[]⟩, .string ⟨#[]⟩, .string ⟨#[]⟩], .agg #[.string gs, .string gn, .string gp, .int .i64 gr]] w fun e w' => e = .returned (.bool true) ∧ Below w.heap.size w w') (hp : 100 < pw.size) :
    Calls Tryd.prog 3 #[.string user, .string pw, .string other, .agg #[.string fs, .string fn, .string fp, .int .i64 fr], .agg #[.string gs, .string gn, .string gp, .int .i64 gr]] w fun e w' => e = .returned (.bool true) ∧ Below w.heap.size w w' := by
  have S1 := Lib.hid S1
  have S2 := Lib.hid S2
  have AW := Lib.hid (fun w => awake13_any w)
  have HG := Lib.hid G
  have R0 := Lib.hid (rwFF w fs fn fp fr gs gn gp gr 23 23)
  have p1 : (pw.size : Int) > 100 := by omega
  clear hp
  clear G
  go_enter Tryd.func3, Tryd.ntmps3
  go_upto_region 1 with fail
  generalize (w.alloc (.cells #[.string fs, .string fn, .string fp, .int .i64 fr] 23 (0, 0))).alloc _ = W at R0 ⊢
  generalize hgf : w.heap.size = gf at *
  generalize hgg : gf + 1 = gg at *
  obtain ⟨c0, c1, c2, c3⟩ := fre_cells R0.out 0 rfl
  obtain ⟨d0, d1, d2, d3⟩ := fre_cells R0.out 1 rfl
  go_wp2_with fail
  refine (S1.out _).mono ?_
  rintro e w1 ⟨rfl, hb⟩
  have R1 := Lib.hid (R0.out.on hb)
  clear hb c0 c1 c2 c3 d0 d1 d2 d3 R0 
  obtain ⟨c0, c1, c2, c3⟩ := fre_cells R1.out 0 rfl
  obtain ⟨d0, d1, d2, d3⟩ := fre_cells R1.out 1 rfl
  go_wp2_with fail
  refine (S2.out _).mono ?_
  rintro e w2 ⟨rfl, hb⟩
  have R2 := Lib.hid (R1.out.on hb)
  clear hb c0 c1 c2 c3 d0 d1 d2 d3 R1 
  go_wp2_with fail
  refine (AW.out _).mono ?_
  rintro e w9 ⟨rfl, hb⟩
  have RZ := Lib.hid (R2.out.on hb)
  clear hb
  go_wp2_with fail
  go_ret
  exact ⟨rfl, hgf ▸ RZ.out.bel⟩
set_option maxRecDepth 1000000 in
set_option maxHeartbeats 8000000 in
theorem keeps_d (user pw other fs fn fp gs gn gp : ByteArray) (fr gr : Int) (w : World) (G : Glob w) (S1 : ∀ w, Calls Tryd.prog 10 #[.agg #[.string user, .string ⟨#[]⟩, .int .i64 0, .int .i64 0, .string ⟨#[]⟩, .string ⟨#[]⟩, .string ⟨#[]⟩, .string ⟨#[]⟩], .agg #[.string fs, .string fn, .string fp, .int .i64 fr]] w fun e w' => e = .returned (.bool true) ∧ Below w.heap.size w w') (S2 : ∀ w, Calls Tryd.prog 10 #[.agg #[.string ⟨#[]⟩, .string ⟨#[]⟩, .int .i64 0, .int .i64 0, .string ⟨#[]⟩, .string ⟨#[]⟩, .string ⟨#[]⟩, .string ⟨#[]⟩], .agg #[.string gs, .string gn, .string gp, .int .i64 gr]] w fun e w' => e = .returned (.bool true) ∧ Below w.heap.size w w') (hp : pw.size ≤ 100) (ho : 100 < other.size) :
    Calls Tryd.prog 3 #[.string user, .string pw, .string other, .agg #[.string fs, .string fn, .string fp, .int .i64 fr], .agg #[.string gs, .string gn, .string gp, .int .i64 gr]] w fun e w' => e = .returned (.bool true) ∧ Below w.heap.size w w' := by
  have S1 := Lib.hid S1
  have S2 := Lib.hid S2
  have AW := Lib.hid (fun w => awake13_any w)
  have HG := Lib.hid G
  have R0 := Lib.hid (rwFF w fs fn fp fr gs gn gp gr 23 23)
  have p1 : ¬ (pw.size : Int) > 100 := by omega
  have o1 : (other.size : Int) > 100 := by omega
  clear hp ho
  clear G
  go_enter Tryd.func3, Tryd.ntmps3
  go_upto_region 1 with fail
  generalize (w.alloc (.cells #[.string fs, .string fn, .string fp, .int .i64 fr] 23 (0, 0))).alloc _ = W at R0 ⊢
  generalize hgf : w.heap.size = gf at *
  generalize hgg : gf + 1 = gg at *
  obtain ⟨c0, c1, c2, c3⟩ := fre_cells R0.out 0 rfl
  obtain ⟨d0, d1, d2, d3⟩ := fre_cells R0.out 1 rfl
  go_wp2_with fail
  refine (S1.out _).mono ?_
  rintro e w1 ⟨rfl, hb⟩
  have R1 := Lib.hid (R0.out.on hb)
  clear hb c0 c1 c2 c3 d0 d1 d2 d3 R0 
  obtain ⟨c0, c1, c2, c3⟩ := fre_cells R1.out 0 rfl
  obtain ⟨d0, d1, d2, d3⟩ := fre_cells R1.out 1 rfl
  go_wp2_with fail
  refine (S2.out _).mono ?_
  rintro e w2 ⟨rfl, hb⟩
  have R2 := Lib.hid (R1.out.on hb)
  clear hb c0 c1 c2 c3 d0 d1 d2 d3 R1 
  go_wp2_with fail
  refine (AW.out _).mono ?_
  rintro e w9 ⟨rfl, hb⟩
  have RZ := Lib.hid (R2.out.on hb)
  clear hb
  go_wp2_with fail
  go_ret
  exact ⟨rfl, hgf ▸ RZ.out.bel⟩
set_option maxRecDepth 1000000 in
set_option maxHeartbeats 8000000 in
theorem keeps_w0 (user pw other fs fn fp gs gn gp : ByteArray) (fr gr : Int) (w : World) (G : Glob w) (S1 : ∀ w, Calls Tryd.prog 10 #[.agg #[.string user, .string ⟨#[]⟩, .int .i64 0, .int .i64 0, .string ⟨#[]⟩, .string ⟨#[]⟩, .string ⟨#[]⟩, .string ⟨#[]⟩], .agg #[.string fs, .string fn, .string fp, .int .i64 fr]] w fun e w' => e = .returned (.bool true) ∧ Below w.heap.size w w') (S2 : ∀ w, Calls Tryd.prog 10 #[.agg #[.string ⟨#[]⟩, .string ⟨#[]⟩, .int .i64 0, .int .i64 0, .string ⟨#[]⟩, .string ⟨#[]⟩, .string ⟨#[]⟩, .string ⟨#[]⟩], .agg #[.string gs, .string gn, .string gp, .int .i64 gr]] w fun e w' => e = .returned (.bool true) ∧ Below w.heap.size w w') (M : ∀ w, Glob w → Calls Tryd.prog 12 #[.string user, .string pw, .agg #[.string fs, .string fn, .string fp, .int .i64 fr]] w fun e w' => e = .returned (.tuple #[noAcc.v, .int .i64 1]) ∧ Below w.heap.size w w') (hp : pw.size ≤ 100) (ho : other.size ≤ 100) :
    Calls Tryd.prog 3 #[.string user, .string pw, .string other, .agg #[.string fs, .string fn, .string fp, .int .i64 fr], .agg #[.string gs, .string gn, .string gp, .int .i64 gr]] w fun e w' => e = .returned (.bool true) ∧ Below w.heap.size w w' := by
  unfold noAcc bs Acc.v at *
  simp only at *
  have S1 := Lib.hid S1
  have S2 := Lib.hid S2
  have M := Lib.hid M
  have AW := Lib.hid (fun w => awake13_any w)
  have HG := Lib.hid G
  have R0 := Lib.hid (rwFF w fs fn fp fr gs gn gp gr 23 23)
  have p1 : ¬ (pw.size : Int) > 100 := by omega
  have o1 : ¬ (other.size : Int) > 100 := by omega
  clear hp ho
  clear G
  go_enter Tryd.func3, Tryd.ntmps3
  go_upto_region 1 with fail
  generalize (w.alloc (.cells #[.string fs, .string fn, .string fp, .int .i64 fr] 23 (0, 0))).alloc _ = W at R0 ⊢
  generalize hgf : w.heap.size = gf at *
  generalize hgg : gf + 1 = gg at *
  obtain ⟨c0, c1, c2, c3⟩ := fre_cells R0.out 0 rfl
  obtain ⟨d0, d1, d2, d3⟩ := fre_cells R0.out 1 rfl
  go_wp2_with fail
  refine (S1.out _).mono ?_
  rintro e w1 ⟨rfl, hb⟩
  have R1 := Lib.hid (R0.out.on hb)
  clear hb c0 c1 c2 c3 d0 d1 d2 d3 R0 
  obtain ⟨c0, c1, c2, c3⟩ := fre_cells R1.out 0 rfl
  obtain ⟨d0, d1, d2, d3⟩ := fre_cells R1.out 1 rfl
  go_wp2_with fail
  refine (S2.out _).mono ?_
  rintro e w2 ⟨rfl, hb⟩
  have R2 := Lib.hid (R1.out.on hb)
  clear hb c0 c1 c2 c3 d0 d1 d2 d3 R1 
  obtain ⟨c0, c1, c2, c3⟩ := fre_cells R2.out 0 rfl
  obtain ⟨d0, d1, d2, d3⟩ := fre_cells R2.out 1 rfl
  have G2 := Lib.hid (HG.out.on R2.out.bel)
  go_wp2_with fail
  refine (M.out _ G2.out).mono ?_
  rintro e w3 ⟨rfl, hb⟩
  have R3 := Lib.hid (R2.out.on hb)
  clear hb c0 c1 c2 c3 d0 d1 d2 d3 R2 
  have R4 := Lib.hid (show Rw w _ (w3.alloc (.cells #[.string ⟨#[]⟩, .string ⟨#[]⟩, .int .i64 0, .int .i64 0, .string ⟨#[]⟩, .string ⟨#[]⟩, .string ⟨#[]⟩, .string ⟨#[]⟩] 26 (0, 0))) from R3.out.alloc (accA ⟨#[]⟩ ⟨#[]⟩ 0 0 ⟨#[]⟩ ⟨#[]⟩ ⟨#[]⟩ ⟨#[]⟩) 26)
  go_upto_region 4 with fail
  clear R3
  generalize w3.heap.size = ga at *
  generalize w3.alloc (.cells #[.string ⟨#[]⟩, .string ⟨#[]⟩, .int .i64 0, .int .i64 0, .string ⟨#[]⟩, .string ⟨#[]⟩, .string ⟨#[]⟩, .string ⟨#[]⟩] 26 (0, 0)) = w3s at *
  go_wp2_with fail
  refine (AW.out _).mono ?_
  rintro e w9 ⟨rfl, hb⟩
  have RZ := Lib.hid (R4.out.on hb)
  clear hb
  go_wp2_with fail
  go_ret
  exact ⟨rfl, hgf ▸ RZ.out.bel⟩
set_option maxRecDepth 1000000 in
set_option maxHeartbeats 8000000 in
theorem keeps_w1 (user pw other fs fn fp gs gn gp : ByteArray) (fr gr : Int) (a b c : Acc) (w : World) (G : Glob w) (S1 : ∀ w, Calls Tryd.prog 10 #[.agg #[.string user, .string ⟨#[]⟩, .int .i64 0, .int .i64 0, .string ⟨#[]⟩, .string ⟨#[]⟩, .string ⟨#[]⟩, .string ⟨#[]⟩], .agg #[.string fs, .string fn, .string fp, .int .i64 fr]] w fun e w' => e = .returned (.bool true) ∧ Below w.heap.size w w') (S2 : ∀ w, Calls Tryd.prog 10 #[.agg #[.string ⟨#[]⟩, .string ⟨#[]⟩, .int .i64 0, .int .i64 0, .string ⟨#[]⟩, .string ⟨#[]⟩, .string ⟨#[]⟩, .string ⟨#[]⟩], .agg #[.string gs, .string gn, .string gp, .int .i64 gr]] w fun e w' => e = .returned (.bool true) ∧ Below w.heap.size w w') (M : ∀ w, Glob w → Calls Tryd.prog 12 #[.string user, .string pw, .agg #[.string fs, .string fn, .string fp, .int .i64 fr]] w fun e w' => e = .returned (.tuple #[a.v, .int .i64 0]) ∧ Below w.heap.size w w') (UA : ∀ w, Glob w → Calls Tryd.prog 13 #[a.v, .string pw] w fun e w' => UnlQ (.one fp) w e w' ∧ Below w.heap.size w w') (CH : ∀ w, Glob w → Calls Tryd.prog 14 #[a.v, .string pw, .string other, .agg #[.string gs, .string gn, .string gp, .int .i64 gr]] w fun e w' => e = .returned (.tuple #[b.v, .int .i64 1]) ∧ Below w.heap.size w w') (RO : ∀ w, Glob w → Calls Tryd.prog 16 #[a.v, .string pw, .agg #[.string gs, .string gn, .string gp, .int .i64 gr]] w fun e w' => e = .returned (.tuple #[c.v, .int .i64 1]) ∧ Below w.heap.size w w') (hp : pw.size ≤ 100) (ho : other.size ≤ 100) :
    Calls Tryd.prog 3 #[.string user, .string pw, .string other, .agg #[.string fs, .string fn, .string fp, .int .i64 fr], .agg #[.string gs, .string gn, .string gp, .int .i64 gr]] w fun e w' => e = .returned (.bool true) ∧ Below w.heap.size w w' := by
  obtain ⟨a0, a1, a2, a3, a4, a5, a6, a7⟩ := a
  obtain ⟨b0, b1, b2, b3, b4, b5, b6, b7⟩ := b
  obtain ⟨c0, c1, c2, c3, c4, c5, c6, c7⟩ := c
  unfold Acc.v at *
  simp only at *
  have S1 := Lib.hid S1
  have S2 := Lib.hid S2
  have M := Lib.hid M
  have UA := Lib.hid UA
  have CH := Lib.hid CH
  have RO := Lib.hid RO
  have AW := Lib.hid (fun w => awake13_any w)
  have HG := Lib.hid G
  have R0 := Lib.hid (rwFF w fs fn fp fr gs gn gp gr 23 23)
  have p1 : ¬ (pw.size : Int) > 100 := by omega
  have o1 : ¬ (other.size : Int) > 100 := by omega
  clear hp ho
  clear G
  go_enter Tryd.func3, Tryd.ntmps3
  go_upto_region 1 with fail
  generalize (w.alloc (.cells #[.string fs, .string fn, .string fp, .int .i64 fr] 23 (0, 0))).alloc _ = W at R0 ⊢
  generalize hgf : w.heap.size = gf at *
  generalize hgg : gf + 1 = gg at *
  obtain ⟨c0, c1, c2, c3⟩ := fre_cells R0.out 0 rfl
  obtain ⟨d0, d1, d2, d3⟩ := fre_cells R0.out 1 rfl
  go_wp2_with fail
  refine (S1.out _).mono ?_
  rintro e w1 ⟨rfl, hb⟩
  have R1 := Lib.hid (R0.out.on hb)
  clear hb c0 c1 c2 c3 d0 d1 d2 d3 R0 
  obtain ⟨c0, c1, c2, c3⟩ := fre_cells R1.out 0 rfl
  obtain ⟨d0, d1, d2, d3⟩ := fre_cells R1.out 1 rfl
  go_wp2_with fail
  refine (S2.out _).mono ?_
  rintro e w2 ⟨rfl, hb⟩
  have R2 := Lib.hid (R1.out.on hb)
  clear hb c0 c1 c2 c3 d0 d1 d2 d3 R1 
  obtain ⟨c0, c1, c2, c3⟩ := fre_cells R2.out 0 rfl
  obtain ⟨d0, d1, d2, d3⟩ := fre_cells R2.out 1 rfl
  have G2 := Lib.hid (HG.out.on R2.out.bel)
  go_wp2_with fail
  refine (M.out _ G2.out).mono ?_
  rintro e w3 ⟨rfl, hb⟩
  have R3 := Lib.hid (R2.out.on hb)
  clear hb c0 c1 c2 c3 d0 d1 d2 d3 R2 
  have R4 := Lib.hid (show Rw w _ (w3.alloc (.cells #[.string a0, .string a1, .int .i64 a2, .int .i64 a3, .string a4, .string a5, .string a6, .string a7] 26 (0, 0))) from R3.out.alloc (accA a0 a1 a2 a3 a4 a5 a6 a7) 26)
  go_upto_region 6 with fail
  clear R3
  generalize w3.heap.size = ga at *
  generalize w3.alloc (.cells #[.string a0, .string a1, .int .i64 a2, .int .i64 a3, .string a4, .string a5, .string a6, .string a7] 26 (0, 0)) = w3s at *
  have RA := Lib.hid (R4.out.row 2)
  have IA := Lib.hid (infoAcc a0 a1 a2 a3 a4 a5 a6 a7)
  have G4 := Lib.hid (HG.out.on R4.out.bel)
  go_wp2_with (with_reducible refine wpList_load_row rfl 26 (.tmp 11) rfl ga rfl 26 (accA a0 a1 a2 a3 a4 a5 a6 a7) (0, 0) _ RA.out Tryd.underlying26 rfl IA.out ?_)
  refine (UA.out _ G4.out).mono ?_
  rintro e w4 ⟨⟨gl, hge, rfl, hrow⟩, hb⟩
  have R5 := Lib.hid (R4.out.join hb hge hrow)
  clear hrow hge hb RA IA R4
  have l0 := R5.out.cell 3 0 (cs := #[.string fp]) (v := .string fp) rfl
  obtain ⟨c0, c1, c2, c3⟩ := fre_cells R5.out 0 rfl
  obtain ⟨d0, d1, d2, d3⟩ := fre_cells R5.out 1 rfl
  go_wp2_with fail
  go_quiet (fail)
  have R6 := Lib.hid (R5.out.drewN nq)
  generalize w4.drewN nq = w5 at R6 ⊢
  clear l0 c0 c1 c2 c3 d0 d1 d2 d3 R5
  obtain ⟨c0, c1, c2, c3⟩ := fre_cells R6.out 0 rfl
  obtain ⟨d0, d1, d2, d3⟩ := fre_cells R6.out 1 rfl
  have RA := Lib.hid (R6.out.row 2)
  have IA := Lib.hid (infoAcc a0 a1 a2 a3 a4 a5 a6 a7)
  have G6 := Lib.hid (HG.out.on R6.out.bel)
  go_wp2_with (with_reducible refine wpList_load_row rfl 26 (.tmp 11) rfl ga rfl 26 (accA a0 a1 a2 a3 a4 a5 a6 a7) (0, 0) _ RA.out Tryd.underlying26 rfl IA.out ?_)
  refine (CH.out _ G6.out).mono ?_
  rintro e w6 ⟨rfl, hb⟩
  have R7 := Lib.hid (R6.out.on hb)
  clear hb c0 c1 c2 c3 d0 d1 d2 d3 R6 RA IA
  have R8 := Lib.hid (show Rw w _ (w6.alloc (.cells #[.string b0, .string b1, .int .i64 b2, .int .i64 b3, .string b4, .string b5, .string b6, .string b7] 26 (0, 0))) from R7.out.alloc (accA b0 b1 b2 b3 b4 b5 b6 b7) 26)
  go_upto_region 10 with fail
  clear R7
  generalize w6.heap.size = gb at *
  generalize w6.alloc (.cells #[.string b0, .string b1, .int .i64 b2, .int .i64 b3, .string b4, .string b5, .string b6, .string b7] 26 (0, 0)) = w6s at *
  obtain ⟨c0, c1, c2, c3⟩ := fre_cells R8.out 0 rfl
  obtain ⟨d0, d1, d2, d3⟩ := fre_cells R8.out 1 rfl
  have RA := Lib.hid (R8.out.row 2)
  have IA := Lib.hid (infoAcc a0 a1 a2 a3 a4 a5 a6 a7)
  have GR := Lib.hid (HG.out.on R8.out.bel)
  go_wp2_with (with_reducible refine wpList_load_row rfl 26 (.tmp 11) rfl ga rfl 26 (accA a0 a1 a2 a3 a4 a5 a6 a7) (0, 0) _ RA.out Tryd.underlying26 rfl IA.out ?_)
  refine (RO.out _ GR.out).mono ?_
  rintro e w7 ⟨rfl, hb⟩
  have R9 := Lib.hid (R8.out.on hb)
  clear hb c0 c1 c2 c3 d0 d1 d2 d3 R8 RA IA
  have R10 := Lib.hid (show Rw w _ (w7.alloc (.cells #[.string c0, .string c1, .int .i64 c2, .int .i64 c3, .string c4, .string c5, .string c6, .string c7] 26 (0, 0))) from R9.out.alloc (accA c0 c1 c2 c3 c4 c5 c6 c7) 26)
  go_upto_region 16 with fail
  clear R9
  generalize w7.heap.size = gc at *
  generalize w7.alloc (.cells #[.string c0, .string c1, .int .i64 c2, .int .i64 c3, .string c4, .string c5, .string c6, .string c7] 26 (0, 0)) = w7s at *
  go_wp2_with fail
  refine (AW.out _).mono ?_
  rintro e w9 ⟨rfl, hb⟩
  have RZ := Lib.hid (R10.out.on hb)
  clear hb
  go_wp2_with fail
  go_ret
  exact ⟨rfl, hgf ▸ RZ.out.bel⟩
set_option maxRecDepth 1000000 in
set_option maxHeartbeats 8000000 in
theorem keeps_w2 (user pw other fs fn fp gs gn gp : ByteArray) (fr gr : Int) (a b c : Acc) (w : World) (G : Glob w) (S1 : ∀ w, Calls Tryd.prog 10 #[.agg #[.string user, .string ⟨#[]⟩, .int .i64 0, .int .i64 0, .string ⟨#[]⟩, .string ⟨#[]⟩, .string ⟨#[]⟩, .string ⟨#[]⟩], .agg #[.string fs, .string fn, .string fp, .int .i64 fr]] w fun e w' => e = .returned (.bool true) ∧ Below w.heap.size w w') (S2 : ∀ w, Calls Tryd.prog 10 #[.agg #[.string ⟨#[]⟩, .string ⟨#[]⟩, .int .i64 0, .int .i64 0, .string ⟨#[]⟩, .string ⟨#[]⟩, .string ⟨#[]⟩, .string ⟨#[]⟩], .agg #[.string gs, .string gn, .string gp, .int .i64 gr]] w fun e w' => e = .returned (.bool true) ∧ Below w.heap.size w w') (M : ∀ w, Glob w → Calls Tryd.prog 12 #[.string user, .string pw, .agg #[.string fs, .string fn, .string fp, .int .i64 fr]] w fun e w' => e = .returned (.tuple #[a.v, .int .i64 0]) ∧ Below w.heap.size w w') (UA : ∀ w, Glob w → Calls Tryd.prog 13 #[a.v, .string pw] w fun e w' => UnlQ (.one fp) w e w' ∧ Below w.heap.size w w') (CH : ∀ w, Glob w → Calls Tryd.prog 14 #[a.v, .string pw, .string other, .agg #[.string gs, .string gn, .string gp, .int .i64 gr]] w fun e w' => e = .returned (.tuple #[b.v, .int .i64 0]) ∧ Below w.heap.size w w') (UB : ∀ w, Glob w → Calls Tryd.prog 13 #[b.v, .string other] w fun e w' => UnlQ (.one fp) w e w' ∧ Below w.heap.size w w') (RO : ∀ w, Glob w → Calls Tryd.prog 16 #[a.v, .string pw, .agg #[.string gs, .string gn, .string gp, .int .i64 gr]] w fun e w' => e = .returned (.tuple #[c.v, .int .i64 1]) ∧ Below w.heap.size w w') (hp : pw.size ≤ 100) (ho : other.size ≤ 100) (hpub : a.pub = b.pub) :
    Calls Tryd.prog 3 #[.string user, .string pw, .string other, .agg #[.string fs, .string fn, .string fp, .int .i64 fr], .agg #[.string gs, .string gn, .string gp, .int .i64 gr]] w fun e w' => e = .returned (.bool true) ∧ Below w.heap.size w w' := by
  obtain ⟨a0, a1, a2, a3, a4, a5, a6, a7⟩ := a
  obtain ⟨b0, b1, b2, b3, b4, b5, b6, b7⟩ := b
  obtain ⟨c0, c1, c2, c3, c4, c5, c6, c7⟩ := c
  unfold Acc.v at *
  simp only at *
  have S1 := Lib.hid S1
  have S2 := Lib.hid S2
  have M := Lib.hid M
  have UA := Lib.hid UA
  have CH := Lib.hid CH
  have UB := Lib.hid UB
  have RO := Lib.hid RO
  subst hpub
  have AW := Lib.hid (fun w => awake13_any w)
  have HG := Lib.hid G
  have R0 := Lib.hid (rwFF w fs fn fp fr gs gn gp gr 23 23)
  have p1 : ¬ (pw.size : Int) > 100 := by omega
  have o1 : ¬ (other.size : Int) > 100 := by omega
  clear hp ho
  clear G
  go_enter Tryd.func3, Tryd.ntmps3
  go_upto_region 1 with fail
  generalize (w.alloc (.cells #[.string fs, .string fn, .string fp, .int .i64 fr] 23 (0, 0))).alloc _ = W at R0 ⊢
  generalize hgf : w.heap.size = gf at *
  generalize hgg : gf + 1 = gg at *
  obtain ⟨c0, c1, c2, c3⟩ := fre_cells R0.out 0 rfl
  obtain ⟨d0, d1, d2, d3⟩ := fre_cells R0.out 1 rfl
  go_wp2_with fail
  refine (S1.out _).mono ?_
  rintro e w1 ⟨rfl, hb⟩
  have R1 := Lib.hid (R0.out.on hb)
  clear hb c0 c1 c2 c3 d0 d1 d2 d3 R0 
  obtain ⟨c0, c1, c2, c3⟩ := fre_cells R1.out 0 rfl
  obtain ⟨d0, d1, d2, d3⟩ := fre_cells R1.out 1 rfl
  go_wp2_with fail
  refine (S2.out _).mono ?_
  rintro e w2 ⟨rfl, hb⟩
  have R2 := Lib.hid (R1.out.on hb)
  clear hb c0 c1 c2 c3 d0 d1 d2 d3 R1 
  obtain ⟨c0, c1, c2, c3⟩ := fre_cells R2.out 0 rfl
  obtain ⟨d0, d1, d2, d3⟩ := fre_cells R2.out 1 rfl
  have G2 := Lib.hid (HG.out.on R2.out.bel)
  go_wp2_with fail
  refine (M.out _ G2.out).mono ?_
  rintro e w3 ⟨rfl, hb⟩
  have R3 := Lib.hid (R2.out.on hb)
  clear hb c0 c1 c2 c3 d0 d1 d2 d3 R2 
  have R4 := Lib.hid (show Rw w _ (w3.alloc (.cells #[.string a0, .string a1, .int .i64 a2, .int .i64 a3, .string a4, .string a5, .string a6, .string a7] 26 (0, 0))) from R3.out.alloc (accA a0 a1 a2 a3 a4 a5 a6 a7) 26)
  go_upto_region 6 with fail
  clear R3
  generalize w3.heap.size = ga at *
  generalize w3.alloc (.cells #[.string a0, .string a1, .int .i64 a2, .int .i64 a3, .string a4, .string a5, .string a6, .string a7] 26 (0, 0)) = w3s at *
  have RA := Lib.hid (R4.out.row 2)
  have IA := Lib.hid (infoAcc a0 a1 a2 a3 a4 a5 a6 a7)
  have G4 := Lib.hid (HG.out.on R4.out.bel)
  go_wp2_with (with_reducible refine wpList_load_row rfl 26 (.tmp 11) rfl ga rfl 26 (accA a0 a1 a2 a3 a4 a5 a6 a7) (0, 0) _ RA.out Tryd.underlying26 rfl IA.out ?_)
  refine (UA.out _ G4.out).mono ?_
  rintro e w4 ⟨⟨gl, hge, rfl, hrow⟩, hb⟩
  have R5 := Lib.hid (R4.out.join hb hge hrow)
  clear hrow hge hb RA IA R4
  have l0 := R5.out.cell 3 0 (cs := #[.string fp]) (v := .string fp) rfl
  obtain ⟨c0, c1, c2, c3⟩ := fre_cells R5.out 0 rfl
  obtain ⟨d0, d1, d2, d3⟩ := fre_cells R5.out 1 rfl
  go_wp2_with fail
  go_quiet (fail)
  have R6 := Lib.hid (R5.out.drewN nq)
  generalize w4.drewN nq = w5 at R6 ⊢
  clear l0 c0 c1 c2 c3 d0 d1 d2 d3 R5
  obtain ⟨c0, c1, c2, c3⟩ := fre_cells R6.out 0 rfl
  obtain ⟨d0, d1, d2, d3⟩ := fre_cells R6.out 1 rfl
  have RA := Lib.hid (R6.out.row 2)
  have IA := Lib.hid (infoAcc a0 a1 a2 a3 a4 a5 a6 a7)
  have G6 := Lib.hid (HG.out.on R6.out.bel)
  go_wp2_with (with_reducible refine wpList_load_row rfl 26 (.tmp 11) rfl ga rfl 26 (accA a0 a1 a2 a3 a4 a5 a6 a7) (0, 0) _ RA.out Tryd.underlying26 rfl IA.out ?_)
  refine (CH.out _ G6.out).mono ?_
  rintro e w6 ⟨rfl, hb⟩
  have R7 := Lib.hid (R6.out.on hb)
  clear hb c0 c1 c2 c3 d0 d1 d2 d3 R6 RA IA
  have R8 := Lib.hid (show Rw w _ (w6.alloc (.cells #[.string b0, .string b1, .int .i64 b2, .int .i64 b3, .string a4, .string b5, .string b6, .string b7] 26 (0, 0))) from R7.out.alloc (accA b0 b1 b2 b3 a4 b5 b6 b7) 26)
  go_upto_region 10 with fail
  clear R7
  generalize w6.heap.size = gb at *
  generalize w6.alloc (.cells #[.string b0, .string b1, .int .i64 b2, .int .i64 b3, .string a4, .string b5, .string b6, .string b7] 26 (0, 0)) = w6s at *
  go_upto_region 11 with fail
  have RA := Lib.hid (R8.out.row 4)
  have IA := Lib.hid (infoAcc b0 b1 b2 b3 a4 b5 b6 b7)
  have G8 := Lib.hid (HG.out.on R8.out.bel)
  go_wp2_with (with_reducible refine wpList_load_row rfl 26 (.tmp 15) rfl gb rfl 26 (accA b0 b1 b2 b3 a4 b5 b6 b7) (0, 0) _ RA.out Tryd.underlying26 rfl IA.out ?_)
  refine (UB.out _ G8.out).mono ?_
  rintro e w7 ⟨⟨gm, hge, rfl, hrow⟩, hb⟩
  have R9 := Lib.hid (R8.out.join hb hge hrow)
  clear hrow hge hb RA IA R8
  have SM := Lib.hid (same_yes [fp] gm gl w7 (by simp) (R9.out.row 5) (R9.out.row 3))
  have SM := Lib.hid (show Calls Tryd.prog 15 #[.slice (some ⟨gm, 0, none⟩) 1 1, .slice (some ⟨gl, 0, none⟩) 1 1] w7 fun e w' => e = .returned (.bool true) ∧ Below w7.heap.size w7 w' from SM.out)
  go_wp2_with fail
  refine SM.out.mono ?_
  rintro e w8 ⟨rfl, hb⟩
  have R10 := Lib.hid (R9.out.on hb)
  clear hb SM R9
  have hbp := R10.out.cell 4 4 (cs := accA b0 b1 b2 b3 a4 b5 b6 b7) (v := .string a4) rfl
  have a4c := R10.out.cell 2 4 (cs := accA a0 a1 a2 a3 a4 a5 a6 a7) (v := .string a4) rfl
  go_upto_region 14 with fail
  clear hbp a4c
  obtain ⟨c0, c1, c2, c3⟩ := fre_cells R10.out 0 rfl
  obtain ⟨d0, d1, d2, d3⟩ := fre_cells R10.out 1 rfl
  have RA := Lib.hid (R10.out.row 2)
  have IA := Lib.hid (infoAcc a0 a1 a2 a3 a4 a5 a6 a7)
  have GR := Lib.hid (HG.out.on R10.out.bel)
  go_wp2_with (with_reducible refine wpList_load_row rfl 26 (.tmp 11) rfl ga rfl 26 (accA a0 a1 a2 a3 a4 a5 a6 a7) (0, 0) _ RA.out Tryd.underlying26 rfl IA.out ?_)
  refine (RO.out _ GR.out).mono ?_
  rintro e w9 ⟨rfl, hb⟩
  have R11 := Lib.hid (R10.out.on hb)
  clear hb c0 c1 c2 c3 d0 d1 d2 d3 R10 RA IA
  have R12 := Lib.hid (show Rw w _ (w9.alloc (.cells #[.string c0, .string c1, .int .i64 c2, .int .i64 c3, .string c4, .string c5, .string c6, .string c7] 26 (0, 0))) from R11.out.alloc (accA c0 c1 c2 c3 c4 c5 c6 c7) 26)
  go_upto_region 16 with fail
  clear R11
  generalize w9.heap.size = gc at *
  generalize w9.alloc (.cells #[.string c0, .string c1, .int .i64 c2, .int .i64 c3, .string c4, .string c5, .string c6, .string c7] 26 (0, 0)) = w9s at *
  go_wp2_with fail
  refine (AW.out _).mono ?_
  rintro e w19 ⟨rfl, hb⟩
  have RZ := Lib.hid (R12.out.on hb)
  clear hb
  go_wp2_with fail
  go_ret
  exact ⟨rfl, hgf ▸ RZ.out.bel⟩
set_option maxRecDepth 1000000 in
set_option maxHeartbeats 8000000 in
theorem keeps_w3 (user pw other fs fn fp gs gn gp : ByteArray) (fr gr : Int) (a b c d : Acc) (w : World) (G : Glob w) (S1 : ∀ w, Calls Tryd.prog 10 #[.agg #[.string user, .string ⟨#[]⟩, .int .i64 0, .int .i64 0, .string ⟨#[]⟩, .string ⟨#[]⟩, .string ⟨#[]⟩, .string ⟨#[]⟩], .agg #[.string fs, .string fn, .string fp, .int .i64 fr]] w fun e w' => e = .returned (.bool true) ∧ Below w.heap.size w w') (S2 : ∀ w, Calls Tryd.prog 10 #[.agg #[.string ⟨#[]⟩, .string ⟨#[]⟩, .int .i64 0, .int .i64 0, .string ⟨#[]⟩, .string ⟨#[]⟩, .string ⟨#[]⟩, .string ⟨#[]⟩], .agg #[.string gs, .string gn, .string gp, .int .i64 gr]] w fun e w' => e = .returned (.bool true) ∧ Below w.heap.size w w') (M : ∀ w, Glob w → Calls Tryd.prog 12 #[.string user, .string pw, .agg #[.string fs, .string fn, .string fp, .int .i64 fr]] w fun e w' => e = .returned (.tuple #[a.v, .int .i64 0]) ∧ Below w.heap.size w w') (UA : ∀ w, Glob w → Calls Tryd.prog 13 #[a.v, .string pw] w fun e w' => UnlQ (.one fp) w e w' ∧ Below w.heap.size w w') (CH : ∀ w, Glob w → Calls Tryd.prog 14 #[a.v, .string pw, .string other, .agg #[.string gs, .string gn, .string gp, .int .i64 gr]] w fun e w' => e = .returned (.tuple #[b.v, .int .i64 0]) ∧ Below w.heap.size w w') (UB : ∀ w, Glob w → Calls Tryd.prog 13 #[b.v, .string other] w fun e w' => UnlQ (.one fp) w e w' ∧ Below w.heap.size w w') (RO : ∀ w, Glob w → Calls Tryd.prog 16 #[a.v, .string pw, .agg #[.string gs, .string gn, .string gp, .int .i64 gr]] w fun e w' => e = .returned (.tuple #[c.v, .int .i64 0]) ∧ Below w.heap.size w w') (UC : ∀ w, Glob w → Calls Tryd.prog 13 #[c.v, .string pw] w fun e w' => UnlQ (.two gp fp) w e w' ∧ Below w.heap.size w w') (FI : ∀ w, Calls Tryd.prog 17 #[c.v] w fun e w' => e = .returned d.v ∧ Below w.heap.size w w') (UD : ∀ w, Glob w → Calls Tryd.prog 13 #[d.v, .string pw] w fun e w' => UnlQ (.one gp) w e w' ∧ Below w.heap.size w w') (hp : pw.size ≤ 100) (ho : other.size ≤ 100) (hpub : a.pub = b.pub) :
    Calls Tryd.prog 3 #[.string user, .string pw, .string other, .agg #[.string fs, .string fn, .string fp, .int .i64 fr], .agg #[.string gs, .string gn, .string gp, .int .i64 gr]] w fun e w' => e = .returned (.bool true) ∧ Below w.heap.size w w' := by
  obtain ⟨a0, a1, a2, a3, a4, a5, a6, a7⟩ := a
  obtain ⟨b0, b1, b2, b3, b4, b5, b6, b7⟩ := b
  obtain ⟨c0, c1, c2, c3, c4, c5, c6, c7⟩ := c
  obtain ⟨d0, d1, d2, d3, d4, d5, d6, d7⟩ := d
  unfold Acc.v at *
  simp only at *
  have S1 := Lib.hid S1
  have S2 := Lib.hid S2
  have M := Lib.hid M
  have UA := Lib.hid UA
  have CH := Lib.hid CH
  have UB := Lib.hid UB
  have RO := Lib.hid RO
  have UC := Lib.hid UC
  have FI := Lib.hid FI
  have UD := Lib.hid UD
  subst hpub
  have AW := Lib.hid (fun w => awake13_any w)
  have HG := Lib.hid G
  have R0 := Lib.hid (rwFF w fs fn fp fr gs gn gp gr 23 23)
  have p1 : ¬ (pw.size : Int) > 100 := by omega
  have o1 : ¬ (other.size : Int) > 100 := by omega
  clear hp ho
  clear G
  go_enter Tryd.func3, Tryd.ntmps3
  go_upto_region 1 with fail
  generalize (w.alloc (.cells #[.string fs, .string fn, .string fp, .int .i64 fr] 23 (0, 0))).alloc _ = W at R0 ⊢
  generalize hgf : w.heap.size = gf at *
  generalize hgg : gf + 1 = gg at *
  obtain ⟨c0, c1, c2, c3⟩ := fre_cells R0.out 0 rfl
  obtain ⟨d0, d1, d2, d3⟩ := fre_cells R0.out 1 rfl
  go_wp2_with fail
  refine (S1.out _).mono ?_
  rintro e w1 ⟨rfl, hb⟩
  have R1 := Lib.hid (R0.out.on hb)
  clear hb c0 c1 c2 c3 d0 d1 d2 d3 R0 
  obtain ⟨c0, c1, c2, c3⟩ := fre_cells R1.out 0 rfl
  obtain ⟨d0, d1, d2, d3⟩ := fre_cells R1.out 1 rfl
  go_wp2_with fail
  refine (S2.out _).mono ?_
  rintro e w2 ⟨rfl, hb⟩
  have R2 := Lib.hid (R1.out.on hb)
  clear hb c0 c1 c2 c3 d0 d1 d2 d3 R1 
  obtain ⟨c0, c1, c2, c3⟩ := fre_cells R2.out 0 rfl
  obtain ⟨d0, d1, d2, d3⟩ := fre_cells R2.out 1 rfl
  have G2 := Lib.hid (HG.out.on R2.out.bel)
  go_wp2_with fail
  refine (M.out _ G2.out).mono ?_
  rintro e w3 ⟨rfl, hb⟩
  have R3 := Lib.hid (R2.out.on hb)
  clear hb c0 c1 c2 c3 d0 d1 d2 d3 R2 
  have R4 := Lib.hid (show Rw w _ (w3.alloc (.cells #[.string a0, .string a1, .int .i64 a2, .int .i64 a3, .string a4, .string a5, .string a6, .string a7] 26 (0, 0))) from R3.out.alloc (accA a0 a1 a2 a3 a4 a5 a6 a7) 26)
  go_upto_region 6 with fail
  clear R3
  generalize w3.heap.size = ga at *
  generalize w3.alloc (.cells #[.string a0, .string a1, .int .i64 a2, .int .i64 a3, .string a4, .string a5, .string a6, .string a7] 26 (0, 0)) = w3s at *
  have RA := Lib.hid (R4.out.row 2)
  have IA := Lib.hid (infoAcc a0 a1 a2 a3 a4 a5 a6 a7)
  have G4 := Lib.hid (HG.out.on R4.out.bel)
  go_wp2_with (with_reducible refine wpList_load_row rfl 26 (.tmp 11) rfl ga rfl 26 (accA a0 a1 a2 a3 a4 a5 a6 a7) (0, 0) _ RA.out Tryd.underlying26 rfl IA.out ?_)
  refine (UA.out _ G4.out).mono ?_
  rintro e w4 ⟨⟨gl, hge, rfl, hrow⟩, hb⟩
  have R5 := Lib.hid (R4.out.join hb hge hrow)
  clear hrow hge hb RA IA R4
  have l0 := R5.out.cell 3 0 (cs := #[.string fp]) (v := .string fp) rfl
  obtain ⟨c0, c1, c2, c3⟩ := fre_cells R5.out 0 rfl
  obtain ⟨d0, d1, d2, d3⟩ := fre_cells R5.out 1 rfl
  go_wp2_with fail
  go_quiet (fail)
  have R6 := Lib.hid (R5.out.drewN nq)
  generalize w4.drewN nq = w5 at R6 ⊢
  clear l0 c0 c1 c2 c3 d0 d1 d2 d3 R5
  obtain ⟨c0, c1, c2, c3⟩ := fre_cells R6.out 0 rfl
  obtain ⟨d0, d1, d2, d3⟩ := fre_cells R6.out 1 rfl
  have RA := Lib.hid (R6.out.row 2)
  have IA := Lib.hid (infoAcc a0 a1 a2 a3 a4 a5 a6 a7)
  have G6 := Lib.hid (HG.out.on R6.out.bel)
  go_wp2_with (with_reducible refine wpList_load_row rfl 26 (.tmp 11) rfl ga rfl 26 (accA a0 a1 a2 a3 a4 a5 a6 a7) (0, 0) _ RA.out Tryd.underlying26 rfl IA.out ?_)
  refine (CH.out _ G6.out).mono ?_
  rintro e w6 ⟨rfl, hb⟩
  have R7 := Lib.hid (R6.out.on hb)
  clear hb c0 c1 c2 c3 d0 d1 d2 d3 R6 RA IA
  have R8 := Lib.hid (show Rw w _ (w6.alloc (.cells #[.string b0, .string b1, .int .i64 b2, .int .i64 b3, .string a4, .string b5, .string b6, .string b7] 26 (0, 0))) from R7.out.alloc (accA b0 b1 b2 b3 a4 b5 b6 b7) 26)
  go_upto_region 10 with fail
  clear R7
  generalize w6.heap.size = gb at *
  generalize w6.alloc (.cells #[.string b0, .string b1, .int .i64 b2, .int .i64 b3, .string a4, .string b5, .string b6, .string b7] 26 (0, 0)) = w6s at *
  go_upto_region 11 with fail
  have RA := Lib.hid (R8.out.row 4)
  have IA := Lib.hid (infoAcc b0 b1 b2 b3 a4 b5 b6 b7)
  have G8 := Lib.hid (HG.out.on R8.out.bel)
  go_wp2_with (with_reducible refine wpList_load_row rfl 26 (.tmp 15) rfl gb rfl 26 (accA b0 b1 b2 b3 a4 b5 b6 b7) (0, 0) _ RA.out Tryd.underlying26 rfl IA.out ?_)
  refine (UB.out _ G8.out).mono ?_
  rintro e w7 ⟨⟨gm, hge, rfl, hrow⟩, hb⟩
  have R9 := Lib.hid (R8.out.join hb hge hrow)
  clear hrow hge hb RA IA R8
  have SM := Lib.hid (same_yes [fp] gm gl w7 (by simp) (R9.out.row 5) (R9.out.row 3))
  have SM := Lib.hid (show Calls Tryd.prog 15 #[.slice (some ⟨gm, 0, none⟩) 1 1, .slice (some ⟨gl, 0, none⟩) 1 1] w7 fun e w' => e = .returned (.bool true) ∧ Below w7.heap.size w7 w' from SM.out)
  go_wp2_with fail
  refine SM.out.mono ?_
  rintro e w8 ⟨rfl, hb⟩
  have R10 := Lib.hid (R9.out.on hb)
  clear hb SM R9
  have hbp := R10.out.cell 4 4 (cs := accA b0 b1 b2 b3 a4 b5 b6 b7) (v := .string a4) rfl
  have a4c := R10.out.cell 2 4 (cs := accA a0 a1 a2 a3 a4 a5 a6 a7) (v := .string a4) rfl
  go_upto_region 14 with fail
  clear hbp a4c
  obtain ⟨c0, c1, c2, c3⟩ := fre_cells R10.out 0 rfl
  obtain ⟨d0, d1, d2, d3⟩ := fre_cells R10.out 1 rfl
  have RA := Lib.hid (R10.out.row 2)
  have IA := Lib.hid (infoAcc a0 a1 a2 a3 a4 a5 a6 a7)
  have GR := Lib.hid (HG.out.on R10.out.bel)
  go_wp2_with (with_reducible refine wpList_load_row rfl 26 (.tmp 11) rfl ga rfl 26 (accA a0 a1 a2 a3 a4 a5 a6 a7) (0, 0) _ RA.out Tryd.underlying26 rfl IA.out ?_)
  refine (RO.out _ GR.out).mono ?_
  rintro e w9 ⟨rfl, hb⟩
  have R11 := Lib.hid (R10.out.on hb)
  clear hb c0 c1 c2 c3 d0 d1 d2 d3 R10 RA IA
  have R12 := Lib.hid (show Rw w _ (w9.alloc (.cells #[.string c0, .string c1, .int .i64 c2, .int .i64 c3, .string c4, .string c5, .string c6, .string c7] 26 (0, 0))) from R11.out.alloc (accA c0 c1 c2 c3 c4 c5 c6 c7) 26)
  go_upto_region 17 with fail
  clear R11
  generalize w9.heap.size = gc at *
  generalize w9.alloc (.cells #[.string c0, .string c1, .int .i64 c2, .int .i64 c3, .string c4, .string c5, .string c6, .string c7] 26 (0, 0)) = w9s at *
  have RA := Lib.hid (R12.out.row 6)
  have IA := Lib.hid (infoAcc c0 c1 c2 c3 c4 c5 c6 c7)
  have G12 := Lib.hid (HG.out.on R12.out.bel)
  go_wp2_with (with_reducible refine wpList_load_row rfl 26 (.tmp 19) rfl gc rfl 26 (accA c0 c1 c2 c3 c4 c5 c6 c7) (0, 0) _ RA.out Tryd.underlying26 rfl IA.out ?_)
  refine (UC.out _ G12.out).mono ?_
  rintro e w10 ⟨⟨gv, hge, rfl, hrow⟩, hb⟩
  have R13 := Lib.hid (R12.out.join hb hge hrow)
  clear hrow hge hb RA IA R12
  have RA := Lib.hid (R13.out.row 6)
  have IA := Lib.hid (infoAcc c0 c1 c2 c3 c4 c5 c6 c7)
  go_wp2_with (with_reducible refine wpList_load_row rfl 26 (.tmp 19) rfl gc rfl 26 (accA c0 c1 c2 c3 c4 c5 c6 c7) (0, 0) _ RA.out Tryd.underlying26 rfl IA.out ?_)
  refine (FI.out _).mono ?_
  rintro e w11 ⟨rfl, hb⟩
  have R14 := Lib.hid (R13.out.on hb)
  clear hb RA IA R13
  have G14 := Lib.hid (HG.out.on R14.out.bel)
  go_wp2_with fail
  refine (UD.out _ G14.out).mono ?_
  rintro e w12 ⟨⟨gu, hge, rfl, hrow⟩, hb⟩
  have R15 := Lib.hid (R14.out.join hb hge hrow)
  clear hrow hge hb R14
  go_upto_region 19 with fail
  have RG := Lib.hid (fun p : BW w12 => R15.out.on p.2)
  have k0 := fun p : BW w12 => (RG.out p).cell 7 0 (cs := #[.string gp, .string fp]) (v := .string gp) rfl
  have k1 := fun p : BW w12 => (RG.out p).cell 7 1 (cs := #[.string gp, .string fp]) (v := .string fp) rfl
  have k2 := fun p : BW w12 => (RG.out p).cell 8 0 (cs := #[.string gp]) (v := .string gp) rfl
  have k3 := fun p : BW w12 => (RG.out p).cell 0 2 (cs := freA fs fn fp fr) (v := .string fp) rfl
  have k4 := fun p : BW w12 => (RG.out p).cell 1 2 (cs := freA gs gn gp gr) (v := .string gp) rfl
  refine wp_region_below (by kernel_rfl) (by kernel_rfl) ?_
  repeat (go_big_quiet_step (exact calls_below (AW.out _)))
  refine wpQuiet_nil ?_
  rintro _ ⟨p, rfl⟩
  have R16 := Lib.hid (RG.out p)
  generalize p.1 = w13 at R16 ⊢
  clear k0 k1 k2 k3 k4 RG R15
  go_wp2_with fail
  go_ret
  exact ⟨rfl, hgf ▸ R16.out.bel⟩
end Go.Proofs.YtfckjilhkdlpfaaDoor
