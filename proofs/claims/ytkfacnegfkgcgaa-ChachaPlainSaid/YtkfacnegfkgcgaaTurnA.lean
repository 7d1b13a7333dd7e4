/-
  Rows of words; chacha.turn: a quarter round over four places of an array; mailsackref05.quarter in the same words.
-/
import Derived.Test.YtkfacnegfkgcgaaRefR
import Derived.Test.YtkfacnegfkgcgaaQMid
import Derived.Deep.RegionLaw
import Derived.BigRegion
namespace Go.Proofs.Ytkfacnegfkgcgaa
open Go.RowKit MS
attribute [local go_sem] w_add w_xor w_or w_and w_sub

theorem wpAny_take_at {P : Program} {ops : Array Oper} {md : Region.Mode} {Q : Exit → Act → World → Prop} {i d : Nat} {oi : Oper} {v : Value} {fuel : Nat} {listed : Array Bool} {a : Act} {w : World} (hi : ops[i]? = some oi)
    (hs : Region.noSelect ops = true) (hf : Region.free md ops listed i = true) (hr : (Region.ready md ops listed).contains i = true)
    (hQ : ∀ c a w, Q (.panic c) (a.put (some d) v) w → Q (.panic c) a w) (hd : oi.dst = some d) (hy : Yields P ops oi v a)
    (h : wpAny P md ops Q fuel (listed.setIfInBounds i true) (a.put (some d) v) w) : wpAny P md ops Q (fuel + 1) listed a w :=
  wpAny_take hi hs hf hr (by rw [hd]; exact hQ) hy (by rw [hd]; exact h)

section
variable {ia ib ic id : Nat} {cs : Array Value} {A B D E : W32}
theorem updA (hab : ia ≠ ib) (hac : ia ≠ ic) (had : ia ≠ id) (X : W32) : (upd cs ia ib ic id A B D E).setIfInBounds ia (.int .u32 (wv X)) = upd cs ia ib ic id X B D E := by
  unfold upd
  rw [Array.setIfInBounds_comm _ _ (Ne.symm had), Array.setIfInBounds_comm _ _ (Ne.symm hac), Array.setIfInBounds_comm _ _ (Ne.symm hab), Array.setIfInBounds_setIfInBounds]
theorem updB (hbc : ib ≠ ic) (hbd : ib ≠ id) (X : W32) : (upd cs ia ib ic id A B D E).setIfInBounds ib (.int .u32 (wv X)) = upd cs ia ib ic id A X D E := by
  unfold upd
  rw [Array.setIfInBounds_comm _ _ (Ne.symm hbd), Array.setIfInBounds_comm _ _ (Ne.symm hbc), Array.setIfInBounds_setIfInBounds]
theorem updC (hcd : ic ≠ id) (X : W32) : (upd cs ia ib ic id A B D E).setIfInBounds ic (.int .u32 (wv X)) = upd cs ia ib ic id A B X E := by
  unfold upd
  rw [Array.setIfInBounds_comm _ _ (Ne.symm hcd), Array.setIfInBounds_setIfInBounds]
theorem updD (X : W32) : (upd cs ia ib ic id A B D E).setIfInBounds id (.int .u32 (wv X)) = upd cs ia ib ic id A B D X := by
  unfold upd
  rw [Array.setIfInBounds_setIfInBounds]
end
theorem grown_set1 {w0 w : World} {b : Nat} (h : w0.grownBy w (some b)) (i : Nat) (v : Value) : w0.grownBy (w.setCell ⟨b, i, none⟩ v) (some b) := grown_set h 0 i v

set_option maxHeartbeats 2000000 in
theorem turn_upd (b T ia ib ic id : Nat) (cs : Array Value) (A B D E : W32) (w : World) (hs : cs.size = 16)
    (hab : ia ≠ ib) (hac : ia ≠ ic) (had : ia ≠ id) (hbc : ib ≠ ic) (hbd : ib ≠ id) (hcd : ic ≠ id)
    (ha : ia < 16) (hb : ib < 16) (hc : ic < 16) (hd : id < 16) (hr : w.heap[b]? = some (.cells (upd cs ia ib ic id A B D E) T (0, 0))) :
    Calls Try.prog 53 #[.pointer (some ⟨b, 0, none⟩), .int .i64 ia, .int .i64 ib, .int .i64 ic, .int .i64 id] w fun e w' => e = .returned (.tuple #[]) ∧ w.grownBy w' (some b) ∧ w'.heap[b]? = some (.cells (upd cs ia ib ic id (qa A B D E) (qb A B D E) (qc A B D E) (qd A B D E)) T (0, 0)) := by
  have st : QSt b ia ib ic id w.heap.size T cs w (w.alloc (.cells #[.int .i64 16, .int .i64 8] 3 (0, 0))) A B D E :=
    ⟨hab, hac, had, hbc, hbd, hcd, by omega, by omega, by omega, by omega, by have := (Array.getElem?_eq_some_iff.1 hr).1; omega, ((MapKept.heap_alloc w _).2 b (Array.getElem?_eq_some_iff.1 hr).1).trans hr, (MapKept.heap_alloc w _).1, World.grownBy_alloc w _ _⟩
  have gl : b < w.heap.size := (Array.getElem?_eq_some_iff.1 hr).1
  have ca : w.cell? ⟨b, ia, none⟩ = some (.int .u32 (wv A)) := by rw [cell_of_row w b ia _ _ _ hr, ← cell_of_row _ b ia _ _ _ st.row]; exact st.cA
  have cb : w.cell? ⟨b, ib, none⟩ = some (.int .u32 (wv B)) := by rw [cell_of_row w b ib _ _ _ hr, ← cell_of_row _ b ib _ _ _ st.row]; exact st.cB
  have cc : w.cell? ⟨b, ic, none⟩ = some (.int .u32 (wv D)) := by rw [cell_of_row w b ic _ _ _ hr, ← cell_of_row _ b ic _ _ _ st.row]; exact st.cC
  have cd : w.cell? ⟨b, id, none⟩ = some (.int .u32 (wv E)) := by rw [cell_of_row w b id _ _ _ hr, ← cell_of_row _ b id _ _ _ st.row]; exact st.cD
  have fr : ∀ i, w.frozen? ⟨b, i, none⟩ = false := fun i => frozen_of_row w b i _ _ hr
  clear st
  have na : (0:Int) ≤ ia := by omega
  have nb : (0:Int) ≤ ib := by omega
  have nc : (0:Int) ≤ ic := by omega
  have nd : (0:Int) ≤ id := by omega
  have ja : (ia:Int) < 16 := by omega
  have jb : (ib:Int) < 16 := by omega
  have jc : (ic:Int) < 16 := by omega
  have jd : (id:Int) < 16 := by omega
  have HR := Lib.hid hr
  have HQ := Lib.hid (fun w => quarter_any A B D E w)
  clear hr
  generalize hx : qa A B D E = x at HQ ⊢
  generalize hy : qb A B D E = y at HQ ⊢
  generalize hz : qc A B D E = z at HQ ⊢
  generalize hv : qd A B D E = v at HQ ⊢
  clear hx hy hz hv
  go_enter Try.func53, Try.ntmps53
  go_wp2_with fail
  refine wp_region_any (by kernel_rfl) ?_
  change wpAny _ _ _ _ _ _ _ (World.drew _)
  refine wpAny_take_at (i := 0) (d := 11) (v := (.pointer (some ⟨b, 0, none⟩))) rfl (by kernel_rfl) (by kernel_rfl) (by kernel_rfl) (fun _ _ _ h => h) rfl (Or.inl ⟨by rfl, by intro w; go_simp⟩) ?_
  refine wpAny_take_at (i := 1) (d := 12) (v := (.int .i64 ia)) rfl (by kernel_rfl) (by kernel_rfl) (by kernel_rfl) (fun _ _ _ h => h) rfl (Or.inl ⟨by rfl, by intro w; go_simp⟩) ?_
  refine wpAny_take_at (i := 2) (d := 13) (v := (.pointer (some ⟨b, 0, none⟩))) rfl (by kernel_rfl) (by kernel_rfl) (by kernel_rfl) (fun _ _ _ h => h) rfl (Or.inl ⟨by rfl, by intro w; go_simp⟩) ?_
  refine wpAny_take_at (i := 3) (d := 14) (v := (.int .i64 ib)) rfl (by kernel_rfl) (by kernel_rfl) (by kernel_rfl) (fun _ _ _ h => h) rfl (Or.inl ⟨by rfl, by intro w; go_simp⟩) ?_
  refine wpAny_take_at (i := 4) (d := 15) (v := (.pointer (some ⟨b, 0, none⟩))) rfl (by kernel_rfl) (by kernel_rfl) (by kernel_rfl) (fun _ _ _ h => h) rfl (Or.inl ⟨by rfl, by intro w; go_simp⟩) ?_
  refine wpAny_take_at (i := 5) (d := 16) (v := (.int .i64 ic)) rfl (by kernel_rfl) (by kernel_rfl) (by kernel_rfl) (fun _ _ _ h => h) rfl (Or.inl ⟨by rfl, by intro w; go_simp⟩) ?_
  refine wpAny_take_at (i := 6) (d := 17) (v := (.pointer (some ⟨b, 0, none⟩))) rfl (by kernel_rfl) (by kernel_rfl) (by kernel_rfl) (fun _ _ _ h => h) rfl (Or.inl ⟨by rfl, by intro w; go_simp⟩) ?_
  refine wpAny_take_at (i := 7) (d := 18) (v := (.int .i64 id)) rfl (by kernel_rfl) (by kernel_rfl) (by kernel_rfl) (fun _ _ _ h => h) rfl (Or.inl ⟨by rfl, by intro w; go_simp⟩) ?_
  refine wpAny_take_at (i := 34) (d := 44) (v := (.pointer (some ⟨b, 0, none⟩))) rfl (by kernel_rfl) (by kernel_rfl) (by kernel_rfl) (fun _ _ _ h => h) rfl (Or.inl ⟨by rfl, by intro w; go_simp⟩) ?_
  refine wpAny_take_at (i := 37) (d := 46) (v := (.pointer (some ⟨b, 0, none⟩))) rfl (by kernel_rfl) (by kernel_rfl) (by kernel_rfl) (fun _ _ _ h => h) rfl (Or.inl ⟨by rfl, by intro w; go_simp⟩) ?_
  refine wpAny_take_at (i := 40) (d := 48) (v := (.pointer (some ⟨b, 0, none⟩))) rfl (by kernel_rfl) (by kernel_rfl) (by kernel_rfl) (fun _ _ _ h => h) rfl (Or.inl ⟨by rfl, by intro w; go_simp⟩) ?_
  refine wpAny_take_at (i := 43) (d := 50) (v := (.pointer (some ⟨b, 0, none⟩))) rfl (by kernel_rfl) (by kernel_rfl) (by kernel_rfl) (fun _ _ _ h => h) rfl (Or.inl ⟨by rfl, by intro w; go_simp⟩) ?_
  simp only [Act.put, List.setIfInBounds_toArray, List.set_cons_zero, List.set_cons_succ]
  refine wpAny_quiet_mid (fun w' => ∃ k, w' = w.drewN k) #[true, true, true, true, true, true, true, true, true, true, true, true, true, true, true, true, true, true, true, true, true, true, true, true, true, true, true, true, true, true, false, false, false, false, true, false, false, true, false, false, true, false, false, true, false, false] 8 22 12 (by kernel_rfl) (by kernel_rfl) (by kernel_rfl) (by kernel_rfl) rfl ⟨1, rfl⟩ ?_
  simp only [List.take_succ_cons, List.take_zero, List.drop_succ_cons, List.drop_zero]
  repeat (go_big_quiet_step ((go_at_call 18; exact Calls.quiet_of ((HQ.out _).mono (fun _ _ h => ⟨h.1, 0, h.2.symm⟩)))))
  refine wpQuiet_nil ?_
  intro _ hw'
  obtain ⟨k, hw''⟩ := hw'
  subst hw''
  refine wpAny_take_at (i := 30) (d := 40) (v := (.int .u32 (wv x))) rfl (by kernel_rfl) (by kernel_rfl) (by kernel_rfl) (fun _ _ _ h => h) rfl (Or.inl ⟨by rfl, by intro w; go_simp⟩) ?_
  refine wpAny_take_at (i := 31) (d := 41) (v := (.int .u32 (wv y))) rfl (by kernel_rfl) (by kernel_rfl) (by kernel_rfl) (fun _ _ _ h => h) rfl (Or.inl ⟨by rfl, by intro w; go_simp⟩) ?_
  refine wpAny_take_at (i := 32) (d := 42) (v := (.int .u32 (wv z))) rfl (by kernel_rfl) (by kernel_rfl) (by kernel_rfl) (fun _ _ _ h => h) rfl (Or.inl ⟨by rfl, by intro w; go_simp⟩) ?_
  refine wpAny_take_at (i := 33) (d := 43) (v := (.int .u32 (wv v))) rfl (by kernel_rfl) (by kernel_rfl) (by kernel_rfl) (fun _ _ _ h => h) rfl (Or.inl ⟨by rfl, by intro w; go_simp⟩) ?_
  refine wpAny_take_at (i := 35) (d := 45) (v := (.pointer (some ⟨b, ia, none⟩))) rfl (by kernel_rfl) (by kernel_rfl) (by kernel_rfl) (fun _ _ _ h => h) rfl (Or.inl ⟨by rfl, by intro w; go_simp⟩) ?_
  refine wpAny_ready (rs := [36]) (by kernel_rfl) (by simp) ?_
  refine AllReady.cons rfl (fun K hK => ?_) AllReady.nil
  go_simp
  refine hK _ _ ?_
  clear hK K
  refine wpAny_take_at (i := 38) (d := 47) (v := (.pointer (some ⟨b, ib, none⟩))) rfl (by kernel_rfl) (by kernel_rfl) (by kernel_rfl) (fun _ _ _ h => h) rfl (Or.inl ⟨by rfl, by intro w; go_simp⟩) ?_
  refine wpAny_ready (rs := [39]) (by kernel_rfl) (by simp) ?_
  refine AllReady.cons rfl (fun K hK => ?_) AllReady.nil
  go_simp
  refine hK _ _ ?_
  clear hK K
  refine wpAny_take_at (i := 41) (d := 49) (v := (.pointer (some ⟨b, ic, none⟩))) rfl (by kernel_rfl) (by kernel_rfl) (by kernel_rfl) (fun _ _ _ h => h) rfl (Or.inl ⟨by rfl, by intro w; go_simp⟩) ?_
  refine wpAny_ready (rs := [42]) (by kernel_rfl) (by simp) ?_
  refine AllReady.cons rfl (fun K hK => ?_) AllReady.nil
  go_simp
  refine hK _ _ ?_
  clear hK K
  refine wpAny_take_at (i := 44) (d := 51) (v := (.pointer (some ⟨b, id, none⟩))) rfl (by kernel_rfl) (by kernel_rfl) (by kernel_rfl) (fun _ _ _ h => h) rfl (Or.inl ⟨by rfl, by intro w; go_simp⟩) ?_
  refine wpAny_ready (rs := [45]) (by kernel_rfl) (by simp) ?_
  refine AllReady.cons rfl (fun K hK => ?_) AllReady.nil
  go_simp
  refine hK _ _ ?_
  clear hK K
  refine wpAny_done (by kernel_rfl) ?_ _
  refine bodyPost_end (results_none rfl _ _ _) rfl ⟨rfl, ?_, ?_⟩
  · exact grown_set1 (grown_set1 (grown_set1 (grown_set (World.grownBy.refl w (some b)) k ia _) ib _) ic _) id _
  · have h1 := row_set HR.out k ia (.int .u32 (wv x))
    have h2 := heap_setCell_same _ b ib _ T (.int .u32 (wv y)) h1
    have h3 := heap_setCell_same _ b ic _ T (.int .u32 (wv z)) h2
    have h4 := heap_setCell_same _ b id _ T (.int .u32 (wv v)) h3
    rw [updA hab hac had, updB hbc hbd, updC hcd, updD] at h4
    exact h4
end Go.Proofs.Ytkfacnegfkgcgaa
