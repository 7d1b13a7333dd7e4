/-
  Contract of mailsackref05.quarter: a quarter round over four places of a slice, wherever they are.
-/
import Derived.Test.YtkfacnegfkgcgaaRefL
namespace Go.Proofs.Ytkfacnegfkgcgaa
open Go.RowKit MS
attribute [local go_sem] w_add w_xor w_or w_and w_sub

/-- Four places of a row, turned. -/
def upd (cs : Array Value) (ia ib ic id : Nat) (A B D E : W32) : Array Value :=
  (((cs.setIfInBounds ia (.int .u32 (wv A))).setIfInBounds ib (.int .u32 (wv B))).setIfInBounds ic (.int .u32 (wv D))).setIfInBounds id (.int .u32 (wv E))

/-- What is known of the world between two statements. -/
structure QSt (b ia ib ic id m T : Nat) (cs : Array Value) (w0 w : World) (A B D E : W32) : Prop where
  ab : ia ≠ ib
  ac : ia ≠ ic
  ad : ia ≠ id
  bc : ib ≠ ic
  bd : ib ≠ id
  cd : ic ≠ id
  la : ia < cs.size
  lb : ib < cs.size
  lc : ic < cs.size
  ld : id < cs.size
  bm : b ≠ m
  row : w.heap[b]? = some (.cells (upd cs ia ib ic id A B D E) T (0, 0))
  mrow : w.heap[m]? = some (.cells #[.int .i64 16, .int .i64 8] 3 (0, 0))
  grown : w0.grownBy w (some b)

section
variable {b ia ib ic id m T : Nat} {cs : Array Value} {w0 w : World} {A B D E : W32}
theorem QSt.cA (h : QSt b ia ib ic id m T cs w0 w A B D E) : w.cell? ⟨b, ia, none⟩ = some (.int .u32 (wv A)) := by
  rw [cell_of_row w b ia _ _ _ h.row]
  have h1 := h.la
  have h2 := Ne.symm h.ab
  have h3 := Ne.symm h.ac
  have h4 := Ne.symm h.ad
  simp [upd, h1, h2, h3, h4]
theorem QSt.cB (h : QSt b ia ib ic id m T cs w0 w A B D E) : w.cell? ⟨b, ib, none⟩ = some (.int .u32 (wv B)) := by
  rw [cell_of_row w b ib _ _ _ h.row]
  have h1 := h.lb
  have h3 := Ne.symm h.bc
  have h4 := Ne.symm h.bd
  simp [upd, h1, h3, h4]
theorem QSt.cC (h : QSt b ia ib ic id m T cs w0 w A B D E) : w.cell? ⟨b, ic, none⟩ = some (.int .u32 (wv D)) := by
  rw [cell_of_row w b ic _ _ _ h.row]
  have h1 := h.lc
  have h4 := Ne.symm h.cd
  simp [upd, h1, h4]
theorem QSt.cD (h : QSt b ia ib ic id m T cs w0 w A B D E) : w.cell? ⟨b, id, none⟩ = some (.int .u32 (wv E)) := by
  rw [cell_of_row w b id _ _ _ h.row]
  have h1 := h.ld
  simp [upd, h1]
theorem QSt.fr (h : QSt b ia ib ic id m T cs w0 w A B D E) (i : Nat) : w.frozen? ⟨b, i, none⟩ = false := frozen_of_row w b i _ _ h.row
theorem QSt.m0 (h : QSt b ia ib ic id m T cs w0 w A B D E) : w.cell? ⟨m, 0, none⟩ = some (.int .i64 16) := by rw [cell_of_row w m 0 _ _ _ h.mrow]; rfl
theorem QSt.m1 (h : QSt b ia ib ic id m T cs w0 w A B D E) : w.cell? ⟨m, 1, none⟩ = some (.int .i64 8) := by rw [cell_of_row w m 1 _ _ _ h.mrow]; rfl
theorem grown_set {w0 w : World} {b : Nat} (h : w0.grownBy w (some b)) (k i : Nat) (v : Value) : w0.grownBy ((w.drewN k).setCell ⟨b, i, none⟩ v) (some b) := by
  refine ⟨h.os, h.tape, h.output, by simpa [World.setCell] using h.size, fun j hj hne => ?_⟩
  rw [heap_setCell_other _ _ _ _ (fun e => hne (by rw [e]))]
  exact h.block j hj hne
theorem row_set {w : World} {b T : Nat} {cs : Array Value} (h : w.heap[b]? = some (.cells cs T (0, 0))) (k i : Nat) (v : Value) : ((w.drewN k).setCell ⟨b, i, none⟩ v).heap[b]? = some (.cells (cs.setIfInBounds i v) T (0, 0)) :=
  heap_setCell_same (w.drewN k) b i cs T v h
theorem row_keep {w : World} {b m : Nat} (h : b ≠ m) (k i : Nat) (v : Value) : ((w.drewN k).setCell ⟨b, i, none⟩ v).heap[m]? = w.heap[m]? :=
  heap_setCell_other _ _ _ _ (Ne.symm h)
theorem QSt.set (h : QSt b ia ib ic id m T cs w0 w A B D E) {A' B' D' E' : W32} (i : Nat) (X : W32) (k : Nat)
    (he : (upd cs ia ib ic id A B D E).setIfInBounds i (.int .u32 (wv X)) = upd cs ia ib ic id A' B' D' E') : QSt b ia ib ic id m T cs w0 ((w.drewN k).setCell ⟨b, i, none⟩ (.int .u32 (wv X))) A' B' D' E' :=
  { h with row := by rw [row_set h.row, he], mrow := by rw [row_keep h.bm]; exact h.mrow, grown := grown_set h.grown k i _ }
theorem QSt.setA (h : QSt b ia ib ic id m T cs w0 w A B D E) (X : W32) (k : Nat) : QSt b ia ib ic id m T cs w0 ((w.drewN k).setCell ⟨b, ia, none⟩ (.int .u32 (wv X))) X B D E := by
  refine h.set ia X k ?_
  unfold upd
  rw [Array.setIfInBounds_comm _ _ (Ne.symm h.ad), Array.setIfInBounds_comm _ _ (Ne.symm h.ac), Array.setIfInBounds_comm _ _ (Ne.symm h.ab), Array.setIfInBounds_setIfInBounds]
theorem QSt.setB (h : QSt b ia ib ic id m T cs w0 w A B D E) (X : W32) (k : Nat) : QSt b ia ib ic id m T cs w0 ((w.drewN k).setCell ⟨b, ib, none⟩ (.int .u32 (wv X))) A X D E := by
  refine h.set ib X k ?_
  unfold upd
  rw [Array.setIfInBounds_comm _ _ (Ne.symm h.bd), Array.setIfInBounds_comm _ _ (Ne.symm h.bc), Array.setIfInBounds_setIfInBounds]
theorem QSt.setC (h : QSt b ia ib ic id m T cs w0 w A B D E) (X : W32) (k : Nat) : QSt b ia ib ic id m T cs w0 ((w.drewN k).setCell ⟨b, ic, none⟩ (.int .u32 (wv X))) A B X E := by
  refine h.set ic X k ?_
  unfold upd
  rw [Array.setIfInBounds_comm _ _ (Ne.symm h.cd), Array.setIfInBounds_setIfInBounds]
theorem QSt.setD (h : QSt b ia ib ic id m T cs w0 w A B D E) (X : W32) (k : Nat) : QSt b ia ib ic id m T cs w0 ((w.drewN k).setCell ⟨b, id, none⟩ (.int .u32 (wv X))) A B D X := by
  refine h.set id X k ?_
  unfold upd
  rw [Array.setIfInBounds_setIfInBounds]
end

set_option maxHeartbeats 2000000 in
theorem rq_any (b C T ia ib ic id : Nat) (cs : Array Value) (A B D E : W32) (w : World)
    (hab : ia ≠ ib) (hac : ia ≠ ic) (had : ia ≠ id) (hbc : ib ≠ ic) (hbd : ib ≠ id) (hcd : ic ≠ id)
    (ha : ia < cs.size) (hb : ib < cs.size) (hc : ic < cs.size) (hd : id < cs.size) (hr : w.heap[b]? = some (.cells (upd cs ia ib ic id A B D E) T (0, 0))) :
    Calls Try.prog 34 #[.slice (some ⟨b, 0, none⟩) cs.size C, .int .i64 ia, .int .i64 ib, .int .i64 ic, .int .i64 id] w fun e w' => e = .returned (.tuple #[]) ∧ w.grownBy w' (some b) ∧ w'.heap[b]? = some (.cells (upd cs ia ib ic id (qa A B D E) (qb A B D E) (qc A B D E) (qd A B D E)) T (0, 0)) := by
  have hbz : b < w.heap.size := (Array.getElem?_eq_some_iff.1 hr).1
  have st : QSt b ia ib ic id w.heap.size T cs w (w.alloc (.cells #[.int .i64 16, .int .i64 8] 3 (0, 0))) A B D E :=
    ⟨hab, hac, had, hbc, hbd, hcd, ha, hb, hc, hd, by omega, ((MapKept.heap_alloc w _).2 b hbz).trans hr, (MapKept.heap_alloc w _).1, World.grownBy_alloc w _ _⟩
  have na : (0:Int) ≤ ia := by omega
  have nb : (0:Int) ≤ ib := by omega
  have nc : (0:Int) ≤ ic := by omega
  have nd : (0:Int) ≤ id := by omega
  have ja : (ia:Int) < (cs.size:Int) := by omega
  have jb : (ib:Int) < (cs.size:Int) := by omega
  have jc : (ic:Int) < (cs.size:Int) := by omega
  have jd : (id:Int) < (cs.size:Int) := by omega
  have ca := st.cA
  have cb := st.cB
  have cc := st.cC
  have cd := st.cD
  have fr := st.fr
  have m0 := st.m0
  have m1 := st.m1
  have HR := Lib.hid hr
  clear hr
  go_enter Try.func34, Try.ntmps34
  go_wp2_with fail
  generalize World.alloc _ _ = wn at st ca cb cc cd fr m0 m1 ⊢
  refine wp_loop_rounds 3 ?_
  rw [rounds_succ]
  go_wp2_with fail
  refine wp_region_draws_tail 12 (by kernel_rfl) (by kernel_rfl) ?_
  simp only [List.take_succ_cons, List.take_zero, List.drop_succ_cons, List.drop_zero]
  repeat (go_big_quiet_step (fail))
  refine wpQuiet_nil ?_
  intro _ hw'
  obtain ⟨k1, hw''⟩ := hw'
  subst hw''
  go_wp2_with fail
  replace st := st.setA (A + B) k1
  generalize World.setCell (World.drewN _ k1) _ _ = wn at st ⊢
  clear ca cb cc cd fr m0 m1
  have ca := st.cA
  have cb := st.cB
  have cc := st.cC
  have cd := st.cD
  have fr := st.fr
  have m0 := st.m0
  have m1 := st.m1
  refine wp_region_draws_tail 14 (by kernel_rfl) (by kernel_rfl) ?_
  simp only [List.take_succ_cons, List.take_zero, List.drop_succ_cons, List.drop_zero]
  repeat (go_big_quiet_step ((go_at_call 51; exact Calls.quiet_of (left16 _ _))))
  refine wpQuiet_nil ?_
  intro _ hw'
  obtain ⟨k2, hw''⟩ := hw'
  subst hw''
  go_wp2_with fail
  replace st := st.setD ((E ^^^ (A + B)).rotateLeft 16) k2
  generalize World.setCell (World.drewN _ k2) _ _ = wn at st ⊢
  clear ca cb cc cd fr m0 m1
  have ca := st.cA
  have cb := st.cB
  have cc := st.cC
  have cd := st.cD
  have fr := st.fr
  have m0 := st.m0
  have m1 := st.m1
  refine wp_region_draws_tail 12 (by kernel_rfl) (by kernel_rfl) ?_
  simp only [List.take_succ_cons, List.take_zero, List.drop_succ_cons, List.drop_zero]
  repeat (go_big_quiet_step (fail))
  refine wpQuiet_nil ?_
  intro _ hw'
  obtain ⟨k3, hw''⟩ := hw'
  subst hw''
  go_wp2_with fail
  replace st := st.setC (D + ((E ^^^ (A + B)).rotateLeft 16)) k3
  generalize World.setCell (World.drewN _ k3) _ _ = wn at st ⊢
  clear ca cb cc cd fr m0 m1
  have ca := st.cA
  have cb := st.cB
  have cc := st.cC
  have cd := st.cD
  have fr := st.fr
  have m0 := st.m0
  have m1 := st.m1
  refine wp_region_draws_tail 13 (by kernel_rfl) (by kernel_rfl) ?_
  simp only [List.take_succ_cons, List.take_zero, List.drop_succ_cons, List.drop_zero]
  repeat (go_big_quiet_step ((go_at_call 51; exact Calls.quiet_of (left12 _ _))))
  refine wpQuiet_nil ?_
  intro _ hw'
  obtain ⟨k4, hw''⟩ := hw'
  subst hw''
  go_wp2_with fail
  replace st := st.setB ((B ^^^ (D + ((E ^^^ (A + B)).rotateLeft 16))).rotateLeft 12) k4
  generalize World.setCell (World.drewN _ k4) _ _ = wn at st ⊢
  clear ca cb cc cd fr m0 m1
  have ca := st.cA
  have cb := st.cB
  have cc := st.cC
  have cd := st.cD
  have fr := st.fr
  have m0 := st.m0
  have m1 := st.m1
  generalize ha1 : A + B = A1 at *
  generalize hd1 : (E ^^^ A1).rotateLeft 16 = E1 at *
  generalize hc1 : D + E1 = D1 at *
  generalize hb1 : (B ^^^ D1).rotateLeft 12 = B1 at *
  rw [rounds_succ]
  go_wp2_with fail
  refine wp_region_draws_tail 12 (by kernel_rfl) (by kernel_rfl) ?_
  simp only [List.take_succ_cons, List.take_zero, List.drop_succ_cons, List.drop_zero]
  repeat (go_big_quiet_step (fail))
  refine wpQuiet_nil ?_
  intro _ hw'
  obtain ⟨k5, hw''⟩ := hw'
  subst hw''
  go_wp2_with fail
  replace st := st.setA (A1 + B1) k5
  generalize World.setCell (World.drewN _ k5) _ _ = wn at st ⊢
  clear ca cb cc cd fr m0 m1
  have ca := st.cA
  have cb := st.cB
  have cc := st.cC
  have cd := st.cD
  have fr := st.fr
  have m0 := st.m0
  have m1 := st.m1
  refine wp_region_draws_tail 14 (by kernel_rfl) (by kernel_rfl) ?_
  simp only [List.take_succ_cons, List.take_zero, List.drop_succ_cons, List.drop_zero]
  repeat (go_big_quiet_step ((go_at_call 51; exact Calls.quiet_of (left8 _ _))))
  refine wpQuiet_nil ?_
  intro _ hw'
  obtain ⟨k6, hw''⟩ := hw'
  subst hw''
  go_wp2_with fail
  replace st := st.setD ((E1 ^^^ (A1 + B1)).rotateLeft 8) k6
  generalize World.setCell (World.drewN _ k6) _ _ = wn at st ⊢
  clear ca cb cc cd fr m0 m1
  have ca := st.cA
  have cb := st.cB
  have cc := st.cC
  have cd := st.cD
  have fr := st.fr
  have m0 := st.m0
  have m1 := st.m1
  refine wp_region_draws_tail 12 (by kernel_rfl) (by kernel_rfl) ?_
  simp only [List.take_succ_cons, List.take_zero, List.drop_succ_cons, List.drop_zero]
  repeat (go_big_quiet_step (fail))
  refine wpQuiet_nil ?_
  intro _ hw'
  obtain ⟨k7, hw''⟩ := hw'
  subst hw''
  go_wp2_with fail
  replace st := st.setC (D1 + ((E1 ^^^ (A1 + B1)).rotateLeft 8)) k7
  generalize World.setCell (World.drewN _ k7) _ _ = wn at st ⊢
  clear ca cb cc cd fr m0 m1
  have ca := st.cA
  have cb := st.cB
  have cc := st.cC
  have cd := st.cD
  have fr := st.fr
  have m0 := st.m0
  have m1 := st.m1
  refine wp_region_draws_tail 13 (by kernel_rfl) (by kernel_rfl) ?_
  simp only [List.take_succ_cons, List.take_zero, List.drop_succ_cons, List.drop_zero]
  repeat (go_big_quiet_step ((go_at_call 51; exact Calls.quiet_of (left7 _ _))))
  refine wpQuiet_nil ?_
  intro _ hw'
  obtain ⟨k8, hw''⟩ := hw'
  subst hw''
  go_wp2_with fail
  replace st := st.setB ((B1 ^^^ (D1 + ((E1 ^^^ (A1 + B1)).rotateLeft 8))).rotateLeft 7) k8
  generalize World.setCell (World.drewN _ k8) _ _ = wn at st ⊢
  clear ca cb cc cd fr m0 m1
  have ca := st.cA
  have cb := st.cB
  have cc := st.cC
  have cd := st.cD
  have fr := st.fr
  have m0 := st.m0
  have m1 := st.m1
  rw [rounds_succ]
  go_wp2_with fail
  refine bodyPost_end (results_none rfl _ _ _) rfl ⟨rfl, st.grown, ?_⟩
  have hrow := st.row
  subst ha1 hd1 hc1 hb1
  exact hrow
end Go.Proofs.Ytkfacnegfkgcgaa
