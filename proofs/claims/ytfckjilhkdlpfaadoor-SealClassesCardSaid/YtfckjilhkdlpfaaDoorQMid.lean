/-
  In the midst of a region that draws its order: a stretch [k, n) of operations that are quiet in a class of worlds, in whose last one all the others end and for which all that is left waits: walked once, in the order of the text.
-/
import Derived.Test.YtfckjilhkdlpfaaDoorQTail
namespace MS
open Go Go.RowKit
section
variable {P : Program} {ops : Array Oper} {md : Region.Mode} {C : World → Prop}

structure MidInv (md : Region.Mode) (ops : Array Oper) (base : Array Bool) (k n : Nat) (listed : Array Bool) : Prop where
  closed : ∀ j oj, ops[j]? = some oj → listed.getD j false = true → ∀ e ∈ oj.after, Region.binds md e = true → listed.getD e.on false = true
  rest : ∀ t, ¬ (k ≤ t ∧ t < n) → listed.getD t true = base.getD t true

theorem MidInv.set {base : Array Bool} {k n i : Nat} {listed : Array Bool} (inv : MidInv md ops base k n listed) (hi : i ∈ Region.ready md ops listed) (hin : k ≤ i ∧ i < n) : MidInv md ops base k n (listed.setIfInBounds i true) := by
  obtain ⟨_, oi, hoi, hall⟩ := mem_ready.1 hi
  refine ⟨fun j oj hj hl e he hb => ?_, fun t ht => by rw [getD_set_ne true (by intro e; subst e; exact ht hin)]; exact inv.rest t ht⟩
  by_cases hij : i = j
  · subst hij
    have : oj = oi := Option.some.inj (hj.symm.trans hoi)
    subst this
    exact getD_set_true (hall e he hb)
  · rw [getD_set_ne false hij] at hl
    exact getD_set_true (inv.closed j oj hj hl e he hb)

def midB (md : Region.Mode) (ops : Array Oper) (base : Array Bool) (k n : Nat) : Bool :=
  decide (k < n) && decide (n ≤ ops.size) &&
  ((List.range ops.size).all fun t => (decide (k ≤ t) && decide (t < n)) || base.getD t true || ((List.range ops.size).any fun j => !(decide (k ≤ j) && decide (j < n)) && !base.getD j true && Region.waitsFor md ops t j) ||
    ((List.range n).all fun i => decide (i < k) || ((List.range n).any fun j => decide (i < j) && Region.waitsFor md ops j i) || Region.waitsFor md ops t i)) &&
  decide (0 < n) &&
  ((List.range ops.size).all fun j => !base.getD j false || match ops[j]? with | some o => o.after.all fun e => !Region.binds md e || base.getD e.on false | none => true)

theorem mid_waits {base : Array Bool} {k n : Nat} {listed : Array Bool} (hB : midB md ops base k n = true) (inv : MidInv md ops base k n listed) {i t : Nat} (hi : k ≤ i ∧ i < n) (hun : listed.getD i true = false)
    (ht : t ∈ Region.ready md ops listed) : k ≤ t ∧ t < n := by
  simp only [midB, Bool.and_eq_true, decide_eq_true_eq, List.all_eq_true, List.mem_range, Bool.or_eq_true, List.any_eq_true] at hB
  obtain ⟨⟨⟨⟨hkn, hn⟩, hT⟩, _⟩, _⟩ := hB
  obtain ⟨htun, ot, hot, hall⟩ := mem_ready.1 ht
  have htlt : t < ops.size := (Array.getElem?_eq_some_iff.1 hot).1
  refine Classical.byContradiction fun hno => ?_
  have dep : ∀ j, Region.waitsFor md ops t j = true → listed.getD j false = true := by
    intro j hw
    obtain ⟨ot', hot', e, he, hb, heq⟩ := Region.waitsFor_spec hw
    have : ot' = ot := Option.some.inj (hot'.symm.trans hot)
    subst this
    rw [← heq]
    exact hall e he hb
  have hS : ∀ x, x < n → (x < k ∨ ∃ j, j < n ∧ x < j ∧ Region.waitsFor md ops j x = true) ∨ Region.waitsFor md ops t x = true := by
    rcases hT t htlt with ((h | h) | ⟨j, _, ⟨h1, h2⟩, h3⟩) | h
    · exact absurd h hno
    · rw [inv.rest t hno, h] at htun; cases htun
    · have h4 := dep j h3
      have h5 : ¬ (k ≤ j ∧ j < n) := by
        intro hc
        simp [hc.1, hc.2] at h1
      have h6 := inv.rest j h5
      have h7 : base.getD j true = false := by simpa using h2
      rw [h7] at h6
      rw [getD_both h6] at h4
      cases h4
    · exact h
  have key : ∀ d j, n - j = d → k ≤ j → j < n → listed.getD j false = true := by
    intro d
    induction d using Nat.strongRecOn with
    | _ d ih =>
      intro j hd hj hjn
      rcases hS j hjn with (h | ⟨j', hj', hlt, hw'⟩) | h
      · omega
      · obtain ⟨oj, hoj, e, he, hb, heq⟩ := Region.waitsFor_spec hw'
        have := ih (n - j') (by omega) j' rfl (by omega) hj'
        rw [← heq]
        exact inv.closed j' oj hoj this e he hb
      · exact dep j h
  have := key _ i rfl hi.1 hi.2
  rw [getD_both hun] at this
  cases this

def wpAnyLM (P : Program) (md : Region.Mode) (ops : Array Oper) (C : World → Prop) (k n : Nat) (L : Array Bool → Act → Prop) : Nat → Array Bool → Act → Prop
  | 0, listed, a => L listed a
  | f + 1, listed, a =>
    Region.ready md ops listed ≠ [] ∧ ∀ i ∈ Region.ready md ops listed, (k ≤ i ∧ i < n) ∧ qOp P ops C i (wpAnyLM P md ops C k n L f (listed.setIfInBounds i true)) a

theorem wpAny_of_mid {k n g : Nat} {L : Array Bool → Act → Prop} {Q' : Exit → Act → World → Prop} (hL : ∀ listed a w, C w → L listed a → wpAny P md ops Q' g listed a w) :
    ∀ (f : Nat) (listed : Array Bool) (a : Act) (w : World), C w → wpAnyLM P md ops C k n L f listed a → wpAny P md ops Q' (f + g) listed a w
  | 0, listed, a, w, hw, h => by rw [Nat.zero_add]; exact hL _ _ _ hw h
  | f + 1, listed, a, w, hw, h => by
    rw [show f + 1 + g = (f + g) + 1 by omega]
    exact ⟨fun h0 => absurd h0 h.1, fun i hi => wpOp_of_qOp hw (fun a' w' hw' h' => wpAny_of_mid hL f _ a' w' hw' h') (h.2 i hi).2⟩

theorem wpAnyLM_first {base : Array Bool} {k n i : Nat} {oi : Oper} {v : Value} {L : Array Bool → Act → Prop} (hi : ops[i]? = some oi) (hsel : ∀ (j : Nat) (o : Oper) cs b, ops[j]? = some o → o.op ≠ .select cs b)
    (hB : midB md ops base k n = true) (hin : k ≤ i ∧ i < n)
    (hdone : ∀ listed a, L listed a → ∀ j ∈ Region.ready md ops listed, ¬ (k ≤ j ∧ j < n)) :
    ∀ (f : Nat) (listed : Array Bool) (a : Act), MidInv md ops base k n listed →
      (∀ j oj, ops[j]? = some oj → j ≠ i → listed.getD j true = false → (∀ e ∈ oj.after, Region.binds md e = true → e.on ≠ i) → oi.apart ops oj = true) →
      i ∈ Region.ready md ops listed → YieldsIn P ops C oi v a →
      wpAnyLM P md ops C k n L f (listed.setIfInBounds i true) (a.put oi.dst v) → wpAnyLM P md ops C k n L (f + 1) listed a := by
  intro f
  induction f with
  | zero =>
    intro listed a inv _ hr hy H
    have hun := (mem_ready.1 hr).1
    refine ⟨fun h => (by rw [h] at hr; cases hr), fun j hj => ?_⟩
    have hjn := mid_waits hB inv hin hun hj
    refine ⟨hjn, ?_⟩
    by_cases hji : j = i
    · subst hji; exact hy.qOp hi H
    · exact absurd hjn (hdone _ _ H j (ready_mono hj hji))
  | succ f ih =>
    intro listed a inv hfree hr hy H
    have hun := (mem_ready.1 hr).1
    refine ⟨fun h => (by rw [h] at hr; cases hr), fun j hj => ?_⟩
    have hjn := mid_waits hB inv hin hun hj
    refine ⟨hjn, ?_⟩
    by_cases hji : j = i
    · subst hji; exact hy.qOp hi H
    · have h1 := (H.2 j (ready_mono hj hji)).2
      obtain ⟨hjun, oj, hoj, hall⟩ := mem_ready.1 hj
      have hnot : ∀ e ∈ oj.after, Region.binds md e = true → e.on ≠ i := fun e he hb heq => by
        have h1 := hall e he hb
        rw [heq, getD_both hun] at h1
        cases h1
      have h2 := qOp_put hoj (hfree j oj hoj hji hjun hnot) (fun cs b => hsel i oi cs b hi) (fun cs b => hsel j oj cs b hoj) hy h1
      have hfree' : ∀ k ok, ops[k]? = some ok → k ≠ i → (listed.setIfInBounds j true).getD k true = false →
          (∀ e ∈ ok.after, Region.binds md e = true → e.on ≠ i) → oi.apart ops ok = true := fun k ok hk hki hun hno => by
        refine hfree k ok hk hki ?_ hno
        by_cases hjk : j = k
        · subst hjk; exact hjun
        · rw [getD_set_ne true hjk] at hun; exact hun
      refine qOp_mono (fun a' h3 => ih (listed.setIfInBounds j true) a' (inv.set hj hjn) hfree' (ready_mono hr (Ne.symm hji)) h3.1 ?_) h2
      rw [Array.setIfInBounds_comm _ _ hji]
      exact h3.2

def midLex (md : Region.Mode) (ops : Array Oper) (final : Array Bool) : Nat → Nat → Array Bool → Bool
  | 0, _, listed => listed == final
  | f + 1, k, listed => (Region.ready md ops listed).contains k && Region.free md ops listed k && midLex md ops final f (k + 1) (listed.setIfInBounds k true)

theorem wpAnyLM_lex {base final : Array Bool} {k0 n : Nat} {Lq : Act → Prop} (hsel : Region.noSelect ops = true) (hB : midB md ops base k0 n = true)
    (hfin : ∀ j ∈ Region.ready md ops final, ¬ (k0 ≤ j ∧ j < n)) :
    ∀ (l : List Oper) (k : Nat) (listed : Array Bool) (a : Act), (∀ j, j < l.length → l[j]? = ops[k + j]?) → k + l.length = n → k0 ≤ k → MidInv md ops base k0 n listed →
    midLex md ops final l.length k listed = true → wpQuiet P ops C Lq l a →
    wpAnyLM P md ops C k0 n (fun listed' a' => listed' = final ∧ Lq a') l.length listed a
  | [], k, listed, a, _, hk, _, inv, hL, h => by
    exact ⟨by simpa [midLex] using hL, h⟩
  | o :: l, k, listed, a, hl, hk, hk0, inv, hL, h => by
    have h0 : ops[k]? = some o := by simpa using (hl 0 (by simp)).symm
    simp only [List.length_cons, midLex, Bool.and_eq_true] at hL
    obtain ⟨⟨hr, hf⟩, hL'⟩ := hL
    have hkn : k0 ≤ k ∧ k < n := by simp only [List.length_cons] at hk; omega
    have hr' : k ∈ Region.ready md ops listed := by simpa using hr
    have hst : qOp P ops C k (wpQuiet P ops C Lq l) a := by unfold qOp; simp only [h0]; exact h
    obtain ⟨v, hy, hK⟩ := yieldsIn_of_qOp h0 hst
    exact wpAnyLM_first h0 (Region.noSelect_spec hsel) hB hkn (fun listed' a' hL => by rw [hL.1]; exact hfin) l.length listed a inv (Region.free_spec h0 hf) hr' hy
      (wpAnyLM_lex hsel hB hfin l (k + 1) _ _ (fun j hj => by have := hl (j + 1) (by simp; omega); simpa [Nat.add_assoc, Nat.add_comm 1 j] using this) (by simp only [List.length_cons] at hk; omega) (by omega) (inv.set hr' hkn) hL' hK)

/-- THE LAW. -/
theorem wpAny_quiet_mid {Q : Exit → Act → World → Prop} {a : Act} {w : World} {l : List Oper} {base : Array Bool} {f : Nat} (C : World → Prop) (final : Array Bool) (k m g : Nat)
    (hsel : Region.noSelect l.toArray = true) (hB : midB md l.toArray base k (k + m) = true) (hlex : midLex md l.toArray final m k base = true)
    (hfin : (Region.ready md l.toArray final).all (fun j => !(decide (k ≤ j) && decide (j < k + m))) = true) (hf : f = m + g) (hC : C w)
    (h : wpQuiet P l.toArray C (fun a' => ∀ w', C w' → wpAny P md l.toArray Q g final a' w') ((l.drop k).take m) a) : wpAny P md l.toArray Q f base a w := by
  subst hf
  have hB' := hB
  simp only [midB, Bool.and_eq_true, decide_eq_true_eq, List.all_eq_true, List.mem_range, Bool.or_eq_true, List.any_eq_true] at hB'
  obtain ⟨⟨⟨⟨hkn, hn⟩, _⟩, _⟩, hcl⟩ := hB'
  have hn' : k + m ≤ l.length := by simpa using hn
  have hlen : ((l.drop k).take m).length = m := by simp; omega
  have hsz : ∀ j, base.getD j false = true → j < l.toArray.size → ∀ oj, l.toArray[j]? = some oj → ∀ e ∈ oj.after, Region.binds md e = true → base.getD e.on false = true := by
    intro j hj hlt oj hoj e he hb
    have := hcl j hlt
    simp only [hoj, hj, Bool.not_true, Bool.false_eq_true, false_or, Array.all_eq_true_iff_forall_mem, Bool.or_eq_true, Bool.not_eq_true'] at this
    rcases this e he with h | h
    · rw [h] at hb; cases hb
    · exact h
  have inv0 : MidInv md l.toArray base k (k + m) base :=
    ⟨fun j oj hj hl e he hb => hsz j hl (Array.getElem?_eq_some_iff.1 hj).1 oj hj e he hb, fun t _ => rfl⟩
  have H := wpAnyLM_lex (P := P) (md := md) hsel hB (fun j hj => by
    have := List.all_eq_true.1 hfin j hj
    simp at this
    omega) ((l.drop k).take m) k base a (fun j hj => by
      rw [hlen] at hj
      simp [hj]) (by rw [hlen]) (Nat.le_refl _) inv0 (by rw [hlen]; exact hlex) h
  rw [hlen] at H
  exact wpAny_of_mid (fun listed a' w' hw' hL => by rw [hL.1]; exact hL.2 w' hw') m base a w hC H
end
end MS
