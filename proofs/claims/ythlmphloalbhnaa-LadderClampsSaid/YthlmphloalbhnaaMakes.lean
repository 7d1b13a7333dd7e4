/-
  A region that draws its order: operations that are quiet (they read; their callees make memory and hand back one value), behind them in the text some that make a variable (they may come up at any time between the quiet ones), and a tail that stands in one forced order.
  One walk of the quiet ones serves every order; the variables' addresses are letters.
-/
import Derived.Test.YthlmphloalbhnaaBQ
import Derived.Laws.Rows
namespace MS
open Go Go.RowKit
section
variable {P : Program} {ops : Array Oper} {md : Region.Mode}

def BWc (p : World) : World → Prop := fun w' => ∃ q : BW p, w' = q.1
theorem BWc.of {p w : World} (h : Below p.heap.size p w) : BWc p w := ⟨⟨w, h⟩, rfl⟩
theorem BWc.below {p w : World} (h : BWc p w) : Below p.heap.size p w := by
  obtain ⟨q, rfl⟩ := h
  exact q.2

/-- Operation i makes an object, whatever the frame and the world are. -/
def Maker (P : Program) (ops : Array Oper) (i d : Nat) (ob : Obj) : Prop :=
  ∃ o, ops[i]? = some o ∧ o.dst = some d ∧ (∀ a : Act, Region.wanted o (yielded ops a.tmps) = true) ∧ ∀ (a : Act) (w : World), (execOp a.eval o).run P w = .ok (.value (.pointer (some ⟨w.heap.size, 0, none⟩))) (w.alloc ob)
def updR (rows : Nat → Option Obj) (g : Nat) (o : Obj) : Nat → Option Obj := fun x => if x = g then some o else rows x
theorem updR_same (rows : Nat → Option Obj) (g : Nat) (o : Obj) : updR rows g o g = some o := if_pos rfl
theorem updR_ne (rows : Nat → Option Obj) {g x : Nat} (o : Obj) (h : x ≠ g) : updR rows g o x = rows x := if_neg h
theorem updR_comm (rows : Nat → Option Obj) {g g' : Nat} (o o' : Obj) (h : g ≠ g') : updR (updR rows g o) g' o' = updR (updR rows g' o') g o := by
  funext x
  unfold updR
  by_cases h1 : x = g
  · subst h1
    rw [if_neg h, if_pos rfl, if_pos rfl]
  · by_cases h2 : x = g'
    · rw [if_pos h2, if_neg h1, if_pos h2]
    · rw [if_neg h2, if_neg h1, if_neg h1, if_neg h2]
def Holds (rows : Nat → Option Obj) (w : World) : Prop := ∀ g o, rows g = some o → w.heap[g]? = some o
abbrev ptrV (g : Nat) : Value := .pointer (some ⟨g, 0, none⟩)

def wpMk (P : Program) (md : Region.Mode) (ops : Array Oper) (w0 : World) (n : Nat) (mk : Nat → Nat × Obj) (L : (Nat → Option Obj) → Array Bool → Act → Prop) : Nat → (Nat → Option Obj) → Array Bool → Act → Prop
  | 0, rows, listed, a => L rows listed a
  | f + 1, rows, listed, a => Region.ready md ops listed ≠ [] ∧ ∀ i ∈ Region.ready md ops listed,
      (i < n ∧ ∃ o v, ops[i]? = some o ∧ (∀ p, Below w0.heap.size w0 p → YieldsIn P ops (BWc p) o v a) ∧ wpMk P md ops w0 n mk L f rows (listed.setIfInBounds i true) (a.put o.dst v)) ∨
      (n ≤ i ∧ Maker P ops i (mk i).1 (mk i).2 ∧ ∀ g, w0.heap.size ≤ g → rows g = none → wpMk P md ops w0 n mk L f (updR rows g (mk i).2) (listed.setIfInBounds i true) (a.put (some (mk i).1) (ptrV g)))

theorem wpAny_of_mk {w0 : World} {n g : Nat} {mk : Nat → Nat × Obj} {L : (Nat → Option Obj) → Array Bool → Act → Prop} {Q' : Exit → Act → World → Prop}
    (hL : ∀ rows listed a w, Below w0.heap.size w0 w → Holds rows w → L rows listed a → wpAny P md ops Q' g listed a w) :
    ∀ (f : Nat) (rows : Nat → Option Obj) (listed : Array Bool) (a : Act) (w : World), Below w0.heap.size w0 w → Holds rows w → wpMk P md ops w0 n mk L f rows listed a → wpAny P md ops Q' (f + g) listed a w
  | 0, rows, listed, a, w, hb, hh, h => by rw [Nat.zero_add]; exact hL _ _ _ _ hb hh h
  | f + 1, rows, listed, a, w, hb, hh, h => by
    rw [show f + 1 + g = (f + g) + 1 by omega]
    refine ⟨fun h0 => absurd h0 h.1, fun i hi => ?_⟩
    rcases h.2 i hi with ⟨_, o, v, ho, hy, hK⟩ | ⟨_, ⟨o, ho, hd, hw, hrun⟩, hK⟩
    · refine wpOp_of_qOp (C := BWc w) (K := fun a' => a' = a.put o.dst v) (BWc.of (Below.refl _ _)) ?_ ((hy w hb).qOp ho rfl)
      rintro a' w' hw' rfl
      have hb' := hw'.below
      refine wpAny_of_mk hL f rows _ _ w' (hb.trans (hb'.mono hb.size)) (fun g' o' hr => ?_) hK
      have h1 := hh g' o' hr
      rw [hb'.block _ (Array.getElem?_eq_some_iff.1 h1).1]
      exact h1
    · unfold wpOp
      simp only [ho]
      rw [if_pos (hw a)]
      refine .inl ?_
      unfold Oper.wp
      rw [hrun]
      simp only [Oper.upon, hd]
      refine wpAny_of_mk hL f _ _ _ _ (below_alloc hb _) ?_ (hK w.heap.size hb.size ?_)
      · intro g' o' hr
        by_cases e : g' = w.heap.size
        · subst e
          rw [updR_same] at hr
          rw [← hr]
          exact heap_alloc_new _ _
        · rw [updR_ne _ _ e] at hr
          have h1 := hh g' o' hr
          rw [heap_alloc_old _ _ (Array.getElem?_eq_some_iff.1 h1).1]
          exact h1
      · cases hr : rows w.heap.size with
        | none => rfl
        | some o' =>
          have := (Array.getElem?_eq_some_iff.1 (hh _ _ hr)).1
          omega

theorem mk_first_quiet {w0 : World} {n n' i : Nat} {mk : Nat → Nat × Obj} {oi : Oper} {v : Value} {L : (Nat → Option Obj) → Array Bool → Act → Prop} (hi : ops[i]? = some oi) (hsel : ∀ (j : Nat) (o : Oper) cs b, ops[j]? = some o → o.op ≠ .select cs b)
    (hs : Region.sinkB md ops n' = true) (hc : Region.chainB md ops n' = true) (hn : n' < ops.size) (hin : i < n) (hnn : n ≤ n')
    (hdone : ∀ rows listed a, L rows listed a → ∀ j ∈ Region.ready md ops listed, n' ≤ j) :
    ∀ (f : Nat) (rows : Nat → Option Obj) (listed : Array Bool) (a : Act), HeadInv md ops n' listed →
      (∀ j oj, ops[j]? = some oj → j ≠ i → listed.getD j true = false → (∀ e ∈ oj.after, Region.binds md e = true → e.on ≠ i) → oi.apart ops oj = true) →
      i ∈ Region.ready md ops listed → (∀ p, Below w0.heap.size w0 p → YieldsIn P ops (BWc p) oi v a) →
      wpMk P md ops w0 n mk L f rows (listed.setIfInBounds i true) (a.put oi.dst v) → wpMk P md ops w0 n mk L (f + 1) rows listed a := by
  intro f
  induction f with
  | zero =>
    intro rows listed a inv _ hr hy H
    have hun := (mem_ready.1 hr).1
    refine ⟨fun h => (by rw [h] at hr; cases hr), fun j hj => ?_⟩
    have hjn : j < n' := by
      rcases Nat.lt_or_ge j n' with h | h
      · exact h
      · exact absurd hj (tail_waits hs hc hn inv _ i rfl (Nat.lt_of_lt_of_le hin hnn) hun j h)
    by_cases hji : j = i
    · subst hji
      exact .inl ⟨hin, oi, v, hi, hy, H⟩
    · have := hdone _ _ _ H j (ready_mono hj hji)
      omega
  | succ f ih =>
    intro rows listed a inv hfree hr hy H
    have hun := (mem_ready.1 hr).1
    refine ⟨fun h => (by rw [h] at hr; cases hr), fun j hj => ?_⟩
    have hjn : j < n' := by
      rcases Nat.lt_or_ge j n' with h | h
      · exact h
      · exact absurd hj (tail_waits hs hc hn inv _ i rfl (Nat.lt_of_lt_of_le hin hnn) hun j h)
    by_cases hji : j = i
    · subst hji
      exact .inl ⟨hin, oi, v, hi, hy, H⟩
    · obtain ⟨hjun, oj, hoj, hall⟩ := mem_ready.1 hj
      have hnot : ∀ e ∈ oj.after, Region.binds md e = true → e.on ≠ i := fun e he hb heq => by
        have h1 := hall e he hb
        rw [heq, getD_both hun] at h1
        cases h1
      obtain ⟨h1, h2, h3⟩ := Oper.apart_spec (hfree j oj hoj hji hjun hnot)
      have hsi : ∀ cs b, oi.op ≠ .select cs b := fun cs b => hsel i oi cs b hi
      have hsj : ∀ cs b, oj.op ≠ .select cs b := fun cs b => hsel j oj cs b hoj
      have hfree' : ∀ k ok, ops[k]? = some ok → k ≠ i → (listed.setIfInBounds j true).getD k true = false →
          (∀ e ∈ ok.after, Region.binds md e = true → e.on ≠ i) → oi.apart ops ok = true := fun k ok hk hki hun hno => by
        refine hfree k ok hk hki ?_ hno
        by_cases hjk : j = k
        · subst hjk; exact hjun
        · rw [getD_set_ne true hjk] at hun; exact hun
      rcases H.2 j (ready_mono hj hji) with ⟨hq, oj', u, hoj', hyj, hK⟩ | ⟨hq, hM, hK⟩
      · have : oj' = oj := Option.some.inj (hoj'.symm.trans hoj)
        subst this
        refine .inl ⟨hq, oj', u, hoj, fun p hp => (hyj p hp).of_same (execOp_put oj' hsj a oi.dst v h1).symm (wanted_put oj' a oi.dst v h1).symm, ?_⟩
        refine ih rows (listed.setIfInBounds j true) _ (inv.set hj hjn) hfree' (ready_mono hr (Ne.symm hji)) (fun p hp => (hy p hp).of_same (execOp_put oi hsi a oj'.dst u h3) (wanted_put oi a oj'.dst u h3)) ?_
        rw [Array.setIfInBounds_comm _ _ hji, ← Act.put_comm a v u h2]
        exact hK
      · obtain ⟨oj', hoj', hd, hw, hrun⟩ := hM
        have : oj' = oj := Option.some.inj (hoj'.symm.trans hoj)
        subst this
        refine .inr ⟨hq, ⟨oj', hoj, hd, hw, hrun⟩, fun g hg hr0 => ?_⟩
        rw [hd] at h2 h3
        refine ih _ (listed.setIfInBounds j true) _ (inv.set hj hjn) hfree' (ready_mono hr (Ne.symm hji)) (fun p hp => (hy p hp).of_same (execOp_put oi hsi a _ (ptrV g) h3) (wanted_put oi a _ (ptrV g) h3)) ?_
        rw [Array.setIfInBounds_comm _ _ hji, ← Act.put_comm a v (ptrV g) h2]
        exact hK g hg hr0

theorem mk_first_maker {w0 : World} {n n' i : Nat} {mk : Nat → Nat × Obj} {oi : Oper} {L : (Nat → Option Obj) → Array Bool → Act → Prop} (hM : Maker P ops i (mk i).1 (mk i).2) (hi : ops[i]? = some oi)
    (hs : Region.sinkB md ops n' = true) (hc : Region.chainB md ops n' = true) (hn : n' < ops.size) (hni : n ≤ i) (hin : i < n')
    (hdone : ∀ rows listed a, L rows listed a → ∀ j ∈ Region.ready md ops listed, n' ≤ j) :
    ∀ (f : Nat) (rows : Nat → Option Obj) (listed : Array Bool) (a : Act), HeadInv md ops n' listed → (∀ q, q < n → listed.getD q true = true) →
      (∀ j oj, ops[j]? = some oj → j ≠ i → listed.getD j true = false → (∀ e ∈ oj.after, Region.binds md e = true → e.on ≠ i) → oi.apart ops oj = true) →
      i ∈ Region.ready md ops listed → (∃ N, ∀ g, N ≤ g → rows g = none) →
      (∀ g, w0.heap.size ≤ g → rows g = none → wpMk P md ops w0 n mk L f (updR rows g (mk i).2) (listed.setIfInBounds i true) (a.put (some (mk i).1) (ptrV g))) → wpMk P md ops w0 n mk L (f + 1) rows listed a := by
  have hdi : oi.dst = some (mk i).1 := by
    obtain ⟨o, ho, hd, _⟩ := hM
    have : o = oi := Option.some.inj (ho.symm.trans hi)
    rw [← this]
    exact hd
  intro f
  induction f with
  | zero =>
    intro rows listed a inv hq _ hr hfin H
    have hun := (mem_ready.1 hr).1
    refine ⟨fun h => (by rw [h] at hr; cases hr), fun j hj => ?_⟩
    have hjn : j < n' := by
      rcases Nat.lt_or_ge j n' with h | h
      · exact h
      · exact absurd hj (tail_waits hs hc hn inv _ i rfl hin hun j h)
    by_cases hji : j = i
    · subst hji
      exact .inr ⟨hni, hM, H⟩
    · obtain ⟨N, hN⟩ := hfin
      have := hdone _ _ _ (H (max N w0.heap.size) (Nat.le_max_right _ _) (hN _ (Nat.le_max_left _ _))) j (ready_mono hj hji)
      omega
  | succ f ih =>
    intro rows listed a inv hq hfree hr hfin H
    have hun := (mem_ready.1 hr).1
    refine ⟨fun h => (by rw [h] at hr; cases hr), fun j hj => ?_⟩
    have hjn : j < n' := by
      rcases Nat.lt_or_ge j n' with h | h
      · exact h
      · exact absurd hj (tail_waits hs hc hn inv _ i rfl hin hun j h)
    by_cases hji : j = i
    · subst hji
      exact .inr ⟨hni, hM, H⟩
    · obtain ⟨hjun, oj, hoj, hall⟩ := mem_ready.1 hj
      have hnj : n ≤ j := by
        rcases Nat.lt_or_ge j n with h | h
        · rw [hq j h] at hjun; cases hjun
        · exact h
      have hnot : ∀ e ∈ oj.after, Region.binds md e = true → e.on ≠ i := fun e he hb heq => by
        have h1 := hall e he hb
        rw [heq, getD_both hun] at h1
        cases h1
      obtain ⟨_, h2, _⟩ := Oper.apart_spec (hfree j oj hoj hji hjun hnot)
      have hfree' : ∀ k ok, ops[k]? = some ok → k ≠ i → (listed.setIfInBounds j true).getD k true = false →
          (∀ e ∈ ok.after, Region.binds md e = true → e.on ≠ i) → oi.apart ops ok = true := fun k ok hk hki hun hno => by
        refine hfree k ok hk hki ?_ hno
        by_cases hjk : j = k
        · subst hjk; exact hjun
        · rw [getD_set_ne true hjk] at hun; exact hun
      have part : ∀ g, w0.heap.size ≤ g → rows g = none → Maker P ops j (mk j).1 (mk j).2 ∧ ∀ g', w0.heap.size ≤ g' → updR rows g (mk i).2 g' = none →
          wpMk P md ops w0 n mk L f (updR (updR rows g (mk i).2) g' (mk j).2) ((listed.setIfInBounds i true).setIfInBounds j true) ((a.put (some (mk i).1) (ptrV g)).put (some (mk j).1) (ptrV g')) := fun g hg hr0 => by
        rcases (H g hg hr0).2 j (ready_mono hj hji) with ⟨h, _⟩ | ⟨_, hM', hK⟩
        · omega
        · exact ⟨hM', hK⟩
      obtain ⟨N, hN⟩ := hfin
      have hM' := (part (max N w0.heap.size) (Nat.le_max_right _ _) (hN _ (Nat.le_max_left _ _))).1
      have hdj : oj.dst = some (mk j).1 := by
        obtain ⟨o, ho, hd, _⟩ := hM'
        have : o = oj := Option.some.inj (ho.symm.trans hoj)
        rw [← this]
        exact hd
      refine .inr ⟨hnj, hM', fun g' hg' hr' => ?_⟩
      refine ih _ (listed.setIfInBounds j true) _ (inv.set hj hjn) (fun q hqn => ?_) hfree' (ready_mono hr (Ne.symm hji)) ⟨max N (g' + 1), fun g hg => ?_⟩ (fun g hg hr0 => ?_)
      · rw [getD_set_ne true (by omega)]
        exact hq q hqn
      · have h1 := Nat.le_max_left N (g' + 1)
        have h2 := Nat.le_max_right N (g' + 1)
        rw [updR_ne _ _ (by omega)]
        exact hN g (by omega)
      · have hne : g ≠ g' := fun e => by
          rw [e, updR_same] at hr0
          cases hr0
        rw [updR_ne _ _ hne] at hr0
        have := (part g hg hr0).2 g' hg' (by rw [updR_ne _ _ (Ne.symm hne)]; exact hr')
        rw [Array.setIfInBounds_comm _ _ hji, updR_comm _ _ _ (Ne.symm hne), ← Act.put_comm a (ptrV g) (ptrV g') (by rw [hdi, hdj] at h2; exact h2)]
        exact this

def mkTail (w0 : World) (mk : Nat → Nat × Obj) (Lf : (Nat → Option Obj) → Act → Prop) : Nat → Nat → (Nat → Option Obj) → Act → Prop
  | 0, _, rows, a => Lf rows a
  | m + 1, k, rows, a => ∀ g, w0.heap.size ≤ g → rows g = none → mkTail w0 mk Lf m (k + 1) (updR rows g (mk k).2) (a.put (some (mk k).1) (ptrV g))

theorem mk_lex_makers {w0 : World} {n n' g : Nat} {mk : Nat → Nat × Obj} {Lf : (Nat → Option Obj) → Act → Prop} (hmk : ∀ j, n ≤ j → j < n' → Maker P ops j (mk j).1 (mk j).2)
    (hs : Region.sinkB md ops n' = true) (hc : Region.chainB md ops n' = true) (hn : n' < ops.size) :
    ∀ (m k : Nat) (rows : Nat → Option Obj) (listed : Array Bool) (a : Act), k + m = n' → n ≤ k → HeadInv md ops n' listed → (∀ q, q < n → listed.getD q true = true) → (∃ N, ∀ g, N ≤ g → rows g = none) →
    Region.lexHead md ops g m k listed = true → mkTail w0 mk Lf m k rows a →
    wpMk P md ops w0 n mk (fun rows listed' a' => Region.seqB md ops g n' listed' = true ∧ Lf rows a') m rows listed a
  | 0, k, rows, listed, a, hk, _, _, _, _, hB, h => by
    have : k = n' := by omega
    subst this
    exact ⟨by simpa [Region.lexHead] using hB, h⟩
  | m + 1, k, rows, listed, a, hk, hnk, inv, hq, hfin, hB, h => by
    simp only [Region.lexHead, Bool.and_eq_true] at hB
    obtain ⟨⟨hr, hf⟩, hB'⟩ := hB
    have hr' : k ∈ Region.ready md ops listed := by simpa using hr
    obtain ⟨_, o, ho, _⟩ := mem_ready.1 hr'
    refine mk_first_maker (hmk k hnk (by omega)) ho hs hc hn hnk (by omega) (fun rows' listed' a' hL => seqB_ready hL.1) m rows listed a inv hq (Region.free_spec ho hf) hr' hfin ?_
    intro g' hg' hr0
    obtain ⟨N, hN⟩ := hfin
    refine mk_lex_makers hmk hs hc hn m (k + 1) _ _ _ (by omega) (by omega) (inv.set hr' (by omega)) (fun q hqn => ?_) ⟨max N (g' + 1), fun g hg => ?_⟩ hB' (h g' hg' hr0)
    · rw [getD_set_ne true (by omega)]
      exact hq q hqn
    · have h1 := Nat.le_max_left N (g' + 1)
      have h2 := Nat.le_max_right N (g' + 1)
      rw [updR_ne _ _ (by omega)]
      exact hN g (by omega)

theorem put_get_ne (a : Act) (x : Option Tmp) (d : Nat) (v : Value) (h : x ≠ some d) : (a.put x v).tmps[d]? = a.tmps[d]? := by
  cases x with
  | none => rfl
  | some e => simp [Act.put, Array.getElem?_setIfInBounds_ne (fun he : e = d => h (by rw [he]))]
theorem put_get_same (a : Act) (d : Nat) (v : Value) (h : d < a.tmps.size) : (a.put (some d) v).tmps[d]? = some v := by simp [Act.put, h]
theorem put_size (a : Act) (x : Option Tmp) (v : Value) : (a.put x v).tmps.size = a.tmps.size := by cases x <;> simp [Act.put]
/-- A slot that no operation writes is at the walk's end what it was. -/
theorem quiet_slot {C : World → Prop} {A : Act} {d : Nat} : ∀ (l : List Oper) (a : Act), wpQuiet P ops C (fun a' => a' = A) l a → (∀ o ∈ l, o.dst ≠ some d) → A.tmps[d]? = a.tmps[d]?
  | [], a, h, _ => by rw [show a = A from h]
  | o :: l, a, h, hd => by
    have h' : if Region.wanted o (yielded ops a.tmps) = true then o.quiet P a C (wpQuiet P ops C (fun a' => a' = A) l) else wpQuiet P ops C (fun a' => a' = A) l (a.put o.dst undef) := h
    have hl : ∀ x ∈ l, x.dst ≠ some d := fun x hx => hd x (List.mem_cons_of_mem _ hx)
    split at h'
    · obtain ⟨v, _, h2⟩ := h'
      rw [quiet_slot l _ h2 hl, put_get_ne _ _ _ _ (hd o List.mem_cons_self)]
    · rw [quiet_slot l _ h' hl, put_get_ne _ _ _ _ (hd o List.mem_cons_self)]
def dstB (sz : Nat) : List Oper → Bool
  | [] => true
  | o :: l => (match o.dst with | some d => decide (d < sz) && l.all (fun x => decide (x.dst ≠ some d)) | none => false) && dstB sz l

theorem mk_lex {w0 : World} {n n' g m : Nat} {mk : Nat → Nat × Obj} {A : Act} {Lf : (Nat → Option Obj) → Act → Prop} (hmk : ∀ j, n ≤ j → j < n' → Maker P ops j (mk j).1 (mk j).2) (hsel : Region.noSelect ops = true)
    (hs : Region.sinkB md ops n' = true) (hc : Region.chainB md ops n' = true) (hn : n' < ops.size) (hnm : n + m = n') (ht : mkTail w0 mk Lf m n (fun _ => none) A) :
    ∀ (l : List Oper) (k : Nat) (listed : Array Bool) (a : Act), (∀ j, j < l.length → l[j]? = ops[k + j]?) → k + l.length = n → HeadInv md ops n' listed → (∀ q, q < k → listed.getD q true = true) →
    Region.lexHead md ops g (l.length + m) k listed = true → dstB a.tmps.size l = true → (∀ p, Below w0.heap.size w0 p → wpQuiet P ops (BWc p) (fun a' => a' = A) l a) →
    wpMk P md ops w0 n mk (fun rows listed' a' => Region.seqB md ops g n' listed' = true ∧ Lf rows a') (l.length + m) (fun _ => none) listed a
  | [], k, listed, a, _, hk, inv, hq, hB, _, h => by
    have : k = n := by simpa using hk
    subst this
    have e : a = A := h w0 (Below.refl _ _)
    subst e
    rw [List.length_nil, Nat.zero_add] at hB ⊢
    exact mk_lex_makers hmk hs hc hn m k _ listed a hnm (Nat.le_refl _) inv hq ⟨0, fun _ _ => rfl⟩ hB ht
  | o :: l, k, listed, a, hl, hk, inv, hq, hB, hd, h => by
    have h0 : ops[k]? = some o := by simpa using (hl 0 (by simp)).symm
    rw [List.length_cons, show l.length + 1 + m = (l.length + m) + 1 by omega] at hB ⊢
    simp only [Region.lexHead, Bool.and_eq_true] at hB
    obtain ⟨⟨hr, hf⟩, hB'⟩ := hB
    have hkn : k < n := by simp only [List.length_cons] at hk; omega
    have hr' : k ∈ Region.ready md ops listed := by simpa using hr
    simp only [dstB, Bool.and_eq_true] at hd
    obtain ⟨hd1, hd2⟩ := hd
    cases hdst : o.dst with
    | none => rw [hdst] at hd1; cases hd1
    | some d =>
      rw [hdst] at hd1
      simp only [Bool.and_eq_true, decide_eq_true_eq, List.all_eq_true] at hd1
      obtain ⟨hsz, hno⟩ := hd1
      have key : ∀ p, Below w0.heap.size w0 p → YieldsIn P ops (BWc p) o (A.tmps.getD d undef) a ∧ wpQuiet P ops (BWc p) (fun a' => a' = A) l (a.put (some d) (A.tmps.getD d undef)) := fun p hp => by
        have h' : if Region.wanted o (yielded ops a.tmps) = true then o.quiet P a (BWc p) (wpQuiet P ops (BWc p) (fun a' => a' = A) l) else wpQuiet P ops (BWc p) (fun a' => a' = A) l (a.put o.dst undef) := h p hp
        have val : ∀ v, wpQuiet P ops (BWc p) (fun a' => a' = A) l (a.put (some d) v) → v = A.tmps.getD d undef := fun v hv => by
          have := quiet_slot l _ hv hno
          rw [put_get_same _ _ _ hsz] at this
          rw [Array.getD_eq_getD_getElem?, this]
          rfl
        split at h'
        · rename_i hw
          obtain ⟨v, h1, h2⟩ := h'
          rw [hdst] at h2
          have e := val v h2
          rw [← e]
          exact ⟨.inl ⟨hw, h1⟩, h2⟩
        · rename_i hw
          rw [hdst] at h'
          have e := val undef h'
          rw [← e]
          exact ⟨.inr ⟨by simpa using hw, rfl⟩, h'⟩
      refine mk_first_quiet h0 (Region.noSelect_spec hsel) hs hc hn hkn (by omega) (fun rows' listed' a' hL => seqB_ready hL.1) (l.length + m) _ listed a inv (Region.free_spec h0 hf) hr' (fun p hp => (key p hp).1) ?_
      rw [hdst]
      refine mk_lex hmk hsel hs hc hn hnm ht l (k + 1) _ _ (fun j hj => by have := hl (j + 1) (by simp; omega); simpa [Nat.add_assoc, Nat.add_comm 1 j] using this) (by simp only [List.length_cons] at hk; omega) (inv.set hr' (by omega)) (fun q hqk => ?_) hB' (by rw [put_size]; exact hd2) (fun p hp => (key p hp).2)
      by_cases e : k = q
      · subst e
        have : k < listed.size := by rw [inv.size]; omega
        simp [this]
      · rw [getD_set_ne true e]
        exact hq q (by omega)

/-- THE LAW: n quiet operations, then m that each make a variable, then the tail. -/
theorem wp_region_makes {id : Nat} {Q : Exit → Act → World → Prop} {a : Act} {w : World} {l : List Oper} (n m : Nat) (mk : Nat → Nat × Obj) (hm : P.follows .mixedOrders = true) (hB : Region.lexTailB .any l.toArray (n + m) = true)
    (hd : dstB a.tmps.size (l.take n) = true) (hmk : ∀ j, n ≤ j → j < n + m → Maker P l.toArray j (mk j).1 (mk j).2)
    (h : ∃ A, (∀ p, Below w.heap.size w p → wpQuiet P l.toArray (fun w' => ∃ q : BW p, w' = q.1) (fun a' => a' = A) (l.take n) a) ∧
      mkTail w mk (fun rows a' => ∀ w', Below w.heap.size w w' → Holds rows w' → wpList P l.toArray Q (l.drop (n + m)) a' w') m n (fun _ => none) A) : (Code.region id l.toArray true).wp P Q a w := by
  obtain ⟨A, hq, ht⟩ := h
  simp only [Region.lexTailB, Bool.and_eq_true, decide_eq_true_eq] at hB
  obtain ⟨⟨⟨⟨hsel, hn⟩, hs⟩, hc⟩, hlex⟩ := hB
  have hn' : n + m < l.length := by simpa using hn
  have htl : (l.take n).length = n := by simp; omega
  have hdl : (l.drop (n + m)).length = l.toArray.size - (n + m) := by simp
  have inv0 : HeadInv .any l.toArray (n + m) (Array.replicate l.toArray.size false) :=
    ⟨by simp, fun j oj _ hl => (by rw [getD_replicate_false] at hl; cases hl), fun t _ ht => getD_in (by simpa using ht) (getD_replicate_false _ _)⟩
  have H := mk_lex (P := P) (md := .any) (g := l.toArray.size - (n + m)) hmk hsel hs hc hn rfl ht (l.take n) 0 _ a (fun j hj => by
    have hj' : j < n := by rw [htl] at hj; exact hj
    simp [hj']) (by simpa using htl) inv0 (fun q hq => absurd hq (Nat.not_lt_zero q)) (by rw [htl]; exact hlex) hd hq
  refine wp_region_any hm ?_
  have := wpAny_of_mk (Q' := Q) (g := l.toArray.size - (n + m)) (fun rows listed a' w' hb' hh' hL => by
    have := wpAny_of_seq (md := .any) (Q' := Q) (l.drop (n + m)) (n + m) listed a' w' (fun j => by simp [List.getElem?_drop]) (by rw [hdl]; exact hL.1) (hL.2 w' hb' hh')
    rwa [hdl] at this) _ _ _ _ w.drew (Below.refl _ _).drew (fun g o h => by cases h) H
  rw [htl, show n + m + (l.toArray.size - (n + m)) = l.toArray.size by omega] at this
  exact this
end
end MS
