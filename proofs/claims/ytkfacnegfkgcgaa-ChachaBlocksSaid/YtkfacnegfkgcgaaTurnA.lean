/-
  Rows of words; chacha.turn: a quarter round over four places of an array; mailsackref05.quarter in the same words.
-/
import Derived.Test.YtkfacnegfkgcgaaRefR
import Derived.Test.YtkfacnegfkgcgaaQMid
import Derived.Deep.RegionLaw
import Derived.BigRegion
namespace Go.Proofs.Ytkfacnegfkgcgaa
open Go.RowKit MS
attribute [local go_sem] w_add w_xor w_or w_and w_sub

section
variable {ia ib ic id : Nat} {cs : Array Value} {A B D E : W32}
theorem updA (hab : ia ≠ ib) (hac : ia ≠ ic) (had : ia ≠ id) (X : W32) : (upd cs ia ib ic id A B D E).setIfInBounds ia (.int .u32 (wv X)) = upd cs ia ib ic id X B D E := by
  unfold upd
  rw [Array.setIfInBounds_comm _ _ (Ne.symm had), Array.setIfInBounds_comm _ _ (Ne.symm hac), Array.setIfInBounds_comm _ _ (Ne.symm hab), Array.setIfInBounds_setIfInBounds]
theorem updB (hbc : ib ≠ ic) (hbd : ib ≠ id) (X : W32) : (upd cs ia ib ic id A B D E).setIfInBounds ib (.int .u32 (wv X)) = upd cs ia ib ic id A X D E := by
  unfold upd
  rw [Array.setIfInBounds_comm _ _ (Ne.symm hbd), Array.setIfInBounds_comm _ _ (Ne.symm hbc), Array.setIfInBounds_setIfInBounds]
theorem updC (hcd : ic ≠ id) (X : W32) : (upd cs ia ib ic id A B D E).setIfInBounds ic (.int .u32 (wv X)) = upd cs ia ib ic id A B X E := by
  unfold upd
  rw [Array.setIfInBounds_comm _ _ (Ne.symm hcd), Array.setIfInBounds_setIfInBounds]
theorem updD (X : W32) : (upd cs ia ib ic id A B D E).setIfInBounds id (.int .u32 (wv X)) = upd cs ia ib ic id A B D X := by
  unfold upd
  rw [Array.setIfInBounds_setIfInBounds]
end
theorem grown_set1 {w0 w : World} {b : Nat} (h : w0.grownBy w (some b)) (i : Nat) (v : Value) : w0.grownBy (w.setCell ⟨b, i, none⟩ v) (some b) := grown_set h 0 i v

open Lean Meta Elab Tactic in
elab "take_pure " i:num : tactic => withMainContext do
  evalTactic (← `(tactic| refine wpAny_take (i := $i) (v := ?_) rfl (by kernel_rfl) (by kernel_rfl) (by kernel_rfl) (fun _ _ _ h => h) (Or.inl ⟨by rfl, ?_⟩) ?_))
  let [_, hy, rest] ← getGoals | throwError "take_pure: three goals expected"
  setGoals [hy]
  evalTactic (← `(tactic| (intro w; go_simp)))
  unless (← getGoals).isEmpty do evalTactic (← `(tactic| with_reducible rfl))
  unless (← getGoals).isEmpty do throwError "take_pure: what it yields is not known"
  let t := (← instantiateMVars (← rest.getType)).consumeMData
  let args := t.getAppArgs
  let put := args[6]!
  unless put.isAppOfArity ``Act.put 3 do throwError "take_pure: no frame"
  let some elems := listElems (args[2]!.getArg! 1) | throwError "take_pure: no list"
  let some o := elems[i.getNat]? | throwError "take_pure: no operation"
  let some a' := BigFrame.putDst (put.getArg! 0) o (put.getArg! 2) | throwError "take_pure: no slot"
  setGoals [← rest.replaceTargetDefEq (mkAppN t.getAppFn (args.set! 6 a'))]
elab "region_on" : tactic => regionWalk false

set_option maxHeartbeats 2000000 in
theorem turn_upd (b T ia ib ic id : Nat) (cs : Array Value) (A B D E : W32) (w : World) (hs : cs.size = 16)
    (hab : ia ≠ ib) (hac : ia ≠ ic) (had : ia ≠ id) (hbc : ib ≠ ic) (hbd : ib ≠ id) (hcd : ic ≠ id)
    (ha : ia < 16) (hb : ib < 16) (hc : ic < 16) (hd : id < 16) (hr : w.heap[b]? = some (.cells (upd cs ia ib ic id A B D E) T (0, 0))) :
    Calls Try.prog 53 #[.pointer (some ⟨b, 0, none⟩), .int .i64 ia, .int .i64 ib, .int .i64 ic, .int .i64 id] w fun e w' => e = .returned (.tuple #[]) ∧ w.grownBy w' (some b) ∧ w'.heap[b]? = some (.cells (upd cs ia ib ic id (qa A B D E) (qb A B D E) (qc A B D E) (qd A B D E)) T (0, 0)) := by
  have st : QSt b ia ib ic id w.heap.size T cs w (w.alloc (.cells #[.int .i64 16, .int .i64 8] 3 (0, 0))) A B D E :=
    ⟨hab, hac, had, hbc, hbd, hcd, by omega, by omega, by omega, by omega, by have := (Array.getElem?_eq_some_iff.1 hr).1; omega, ((MapKept.heap_alloc w _).2 b (Array.getElem?_eq_some_iff.1 hr).1).trans hr, (MapKept.heap_alloc w _).1, World.grownBy_alloc w _ _⟩
  have gl : b < w.heap.size := (Array.getElem?_eq_some_iff.1 hr).1
  have ca : w.cell? ⟨b, ia, none⟩ = some (.int .u32 (wv A)) := by rw [cell_of_row w b ia _ _ _ hr, ← cell_of_row _ b ia _ _ _ st.row]; exact st.cA
  have cb : w.cell? ⟨b, ib, none⟩ = some (.int .u32 (wv B)) := by rw [cell_of_row w b ib _ _ _ hr, ← cell_of_row _ b ib _ _ _ st.row]; exact st.cB
  have cc : w.cell? ⟨b, ic, none⟩ = some (.int .u32 (wv D)) := by rw [cell_of_row w b ic _ _ _ hr, ← cell_of_row _ b ic _ _ _ st.row]; exact st.cC
  have cd : w.cell? ⟨b, id, none⟩ = some (.int .u32 (wv E)) := by rw [cell_of_row w b id _ _ _ hr, ← cell_of_row _ b id _ _ _ st.row]; exact st.cD
  have fr : ∀ i, w.frozen? ⟨b, i, none⟩ = false := fun i => frozen_of_row w b i _ _ hr
  clear st
  have na : (0:Int) ≤ ia := by omega
  have nb : (0:Int) ≤ ib := by omega
  have nc : (0:Int) ≤ ic := by omega
  have nd : (0:Int) ≤ id := by omega
  have ja : (ia:Int) < 16 := by omega
  have jb : (ib:Int) < 16 := by omega
  have jc : (ic:Int) < 16 := by omega
  have jd : (id:Int) < 16 := by omega
  have HR := Lib.hid hr
  have HQ := Lib.hid (fun w => quarter_any A B D E w)
  clear hr
  generalize hx : qa A B D E = x at HQ ⊢
  generalize hy : qb A B D E = y at HQ ⊢
  generalize hz : qc A B D E = z at HQ ⊢
  generalize hv : qd A B D E = v at HQ ⊢
  clear hx hy hz hv
  go_enter Try.func53, Try.ntmps53
  go_wp2_with fail
  refine wp_region_any (by kernel_rfl) ?_
  change wpAny _ _ _ _ _ _ _ (World.drew _)
  take_pure 0
  take_pure 1
  take_pure 2
  take_pure 3
  take_pure 4
  take_pure 5
  take_pure 6
  take_pure 7
  take_pure 34
  take_pure 37
  take_pure 40
  take_pure 43
  refine wpAny_quiet_mid (fun w' => ∃ k, w' = w.drewN k) #[true, true, true, true, true, true, true, true, true, true, true, true, true, true, true, true, true, true, true, true, true, true, true, true, true, true, true, true, true, true, false, false, false, false, true, false, false, true, false, false, true, false, false, true, false, false] 8 22 12 (by kernel_rfl) (by kernel_rfl) (by kernel_rfl) (by kernel_rfl) rfl ⟨1, rfl⟩ ?_
  simp only [List.take_succ_cons, List.take_zero, List.drop_succ_cons, List.drop_zero]
  repeat (go_big_quiet_step ((go_at_call 18; exact Calls.quiet_of ((HQ.out _).mono (fun _ _ h => ⟨h.1, 0, h.2.symm⟩)))))
  refine wpQuiet_nil ?_
  intro _ hw'
  obtain ⟨k, hw''⟩ := hw'
  subst hw''
  region_on
  refine bodyPost_end (results_none rfl _ _ _) rfl ⟨rfl, ?_, ?_⟩
  · exact grown_set1 (grown_set1 (grown_set1 (grown_set (World.grownBy.refl w (some b)) k ia _) ib _) ic _) id _
  · have h1 := row_set HR.out k ia (.int .u32 (wv x))
    have h2 := heap_setCell_same _ b ib _ T (.int .u32 (wv y)) h1
    have h3 := heap_setCell_same _ b ic _ T (.int .u32 (wv z)) h2
    have h4 := heap_setCell_same _ b id _ T (.int .u32 (wv v)) h3
    rw [updA hab hac had, updB hbc hbd, updC hcd, updD] at h4
    exact h4
end Go.Proofs.Ytkfacnegfkgcgaa
