/-
  A region that draws its order, where what is left are two chains of operations that know nothing of each other: an invariant that is kept by each step of either chain holds at the end of both.
-/
import Derived.Test.YtfckjilhkdlpfaaDoorHeld
namespace Go.Proofs.YtfckjilhkdlpfaaDoor
open Go.RowKit MS

section
variable {P : Program} {ops : Array Oper} {Q : Exit → Act → World → Prop} {md : Region.Mode}
/-- What has come up behind k1 and k2 steps. -/
def lst (L : Array Bool) (l1 l2 : List Nat) (k1 k2 : Nat) : Array Bool := (l2.take k2).foldl (fun a i => a.setIfInBounds i true) ((l1.take k1).foldl (fun a i => a.setIfInBounds i true) L)
def twoB (md : Region.Mode) (ops : Array Oper) (L : Array Bool) (l1 l2 : List Nat) : Bool :=
  (List.range (l1.length + 1)).all fun k1 => (List.range (l2.length + 1)).all fun k2 => (decide (k1 = l1.length) && decide (k2 = l2.length)) ||
    (!(Region.ready md ops (lst L l1 l2 k1 k2)).isEmpty && (Region.ready md ops (lst L l1 l2 k1 k2)).all fun j =>
      (decide (k1 < l1.length) && decide (j = l1.getD k1 0) && decide ((lst L l1 l2 k1 k2).setIfInBounds j true = lst L l1 l2 (k1 + 1) k2)) ||
      (decide (k2 < l2.length) && decide (j = l2.getD k2 0) && decide ((lst L l1 l2 k1 k2).setIfInBounds j true = lst L l1 l2 k1 (k2 + 1))))

theorem two_chains {L : Array Bool} {f : Nat} (l1 l2 : List Nat) (J : Nat → Nat → Act → World → Prop) (hB : twoB md ops L l1 l2 = true)
    (s1 : ∀ k1 k2 a w, k1 < l1.length → k2 ≤ l2.length → J k1 k2 a w → wpOp P ops Q (l1.getD k1 0) (J (k1 + 1) k2) a w)
    (s2 : ∀ k1 k2 a w, k1 ≤ l1.length → k2 < l2.length → J k1 k2 a w → wpOp P ops Q (l2.getD k2 0) (J k1 (k2 + 1)) a w)
    (hend : ∀ a w, J l1.length l2.length a w → wpAny P md ops Q f (lst L l1 l2 l1.length l2.length) a w) :
    ∀ m k1 k2 a w, (l1.length - k1) + (l2.length - k2) = m → k1 ≤ l1.length → k2 ≤ l2.length → J k1 k2 a w → wpAny P md ops Q (m + f) (lst L l1 l2 k1 k2) a w := by
  have hB' : ∀ k1 k2, k1 ≤ l1.length → k2 ≤ l2.length → ¬ (k1 = l1.length ∧ k2 = l2.length) → Region.ready md ops (lst L l1 l2 k1 k2) ≠ [] ∧ ∀ j ∈ Region.ready md ops (lst L l1 l2 k1 k2),
      (k1 < l1.length ∧ j = l1.getD k1 0 ∧ (lst L l1 l2 k1 k2).setIfInBounds j true = lst L l1 l2 (k1 + 1) k2) ∨ (k2 < l2.length ∧ j = l2.getD k2 0 ∧ (lst L l1 l2 k1 k2).setIfInBounds j true = lst L l1 l2 k1 (k2 + 1)) := by
    intro k1 k2 h1 h2 hne
    have h := List.all_eq_true.1 (List.all_eq_true.1 hB k1 (List.mem_range.2 (by omega))) k2 (List.mem_range.2 (by omega))
    simp only [Bool.or_eq_true, Bool.and_eq_true, decide_eq_true_eq, Bool.not_eq_true', List.all_eq_true] at h
    rcases h with h | h
    · exact absurd h hne
    · refine ⟨fun e => ?_, fun j hj => ?_⟩
      · rw [e] at h
        simp at h
      · rcases h.2 j hj with h3 | h3
        · exact .inl ⟨h3.1.1, h3.1.2, h3.2⟩
        · exact .inr ⟨h3.1.1, h3.1.2, h3.2⟩
  intro m
  induction m with
  | zero =>
    intro k1 k2 a w hm h1 h2 hJ
    have e1 : k1 = l1.length := by omega
    have e2 : k2 = l2.length := by omega
    subst e1 e2
    rw [Nat.zero_add]
    exact hend a w hJ
  | succ m ih =>
    intro k1 k2 a w hm h1 h2 hJ
    obtain ⟨hne, hall⟩ := hB' k1 k2 h1 h2 (by omega)
    rw [show m + 1 + f = (m + f) + 1 by omega]
    refine ⟨fun h0 => absurd h0 hne, fun j hj => ?_⟩
    rcases hall j hj with ⟨hk, rfl, he⟩ | ⟨hk, rfl, he⟩
    · refine wpOp_mono (fun a' w' hJ' => ?_) (s1 k1 k2 a w hk h2 hJ)
      rw [he]
      exact ih (k1 + 1) k2 a' w' (by omega) (by omega) h2 hJ'
    · refine wpOp_mono (fun a' w' hJ' => ?_) (s2 k1 k2 a w h1 hk hJ)
      rw [he]
      exact ih k1 (k2 + 1) a' w' (by omega) h1 (by omega) hJ'
theorem wpOp_val {i d : Nat} {o : Oper} {v : Value} {K : Act → World → Prop} {a : Act} {w : World} (hi : ops[i]? = some o) (hw : Region.wanted o (yielded ops a.tmps) = true) (hd : o.dst = some d)
    (hrun : (execOp a.eval o).run P w = .ok (.value v) w) (h : K (a.put (some d) v) w) : wpOp P ops Q i K a w := by
  unfold wpOp
  simp only [hi]
  rw [if_pos hw]
  refine .inl ?_
  unfold Oper.wp
  rw [hrun]
  simp only [Oper.upon, hd]
  exact h
end
end Go.Proofs.YtfckjilhkdlpfaaDoor
