/-
  A region that draws its order: two elements are built and appended, one behind the other, to a slice that is the function's own; all its other operations have come up. (The second element may be built at any time.)
-/
import Derived.Test.YtfckjilhkdlpfaaDoorUtil
import Derived.OrdersHeld
import Derived.Deep.AppendLies
import Derived.Great.Frames
namespace Go.Proofs.YtfckjilhkdlpfaaDoor
open Go.RowKit MS

section
variable {P : Program} {ops : Array Oper} {Q : Exit → Act → World → Prop}
theorem wpAnyH_take_at {md : Region.Mode} {S : World → Prop} {i d : Nat} {oi : Oper} {v : Value} {fuel : Nat} {listed : Array Bool} {a : Act} {w : World} (hi : ops[i]? = some oi)
    (hs : Region.noSelect ops = true) (hf : Region.free md ops listed i = true) (hr : (Region.ready md ops listed).contains i = true)
    (hQ : ∀ c a w, Q (.panic c) (a.put (some d) v) w → Q (.panic c) a w) (hd : oi.dst = some d) (hy : YieldsIf P ops S oi v a) (hS : S w)
    (h : wpAnyH P md ops Q S fuel (listed.setIfInBounds i true) (a.put (some d) v) w) : wpAnyH P md ops Q S (fuel + 1) listed a w :=
  wpAnyH_take hi hs hf hr (by rw [hd]; exact hQ) hy hS (by rw [hd]; exact h)
theorem wpOp_build1 {i : Nat} {o : Oper} {d s U E : Nat} {u : Value} {K : Act → World → Prop} {a : Act} {w : World} (hi : ops[i]? = some o) (hg : o.guard = none) (hd : o.dst = some d) (ho : o.op = .buildSlice U 1 #[(0, .tmp s)])
    (hrun : (Instr.buildSlice U 1 #[(0, u)]).run P w = .ok (.slice (some ⟨w.heap.size, 0, none⟩) 1 1) (w.alloc (.cells #[u] E (0, 0)))) (hu : a.eval (.tmp s) = u)
    (h : K (a.put (some d) (.slice (some ⟨w.heap.size, 0, none⟩) 1 1)) (w.alloc (.cells #[u] E (0, 0)))) : wpOp P ops Q i K a w := by
  unfold wpOp
  simp only [hi]
  have hw : Region.wanted o (yielded ops a.tmps) = true := by simp [Region.wanted, hg]
  rw [if_pos hw]
  refine .inl ?_
  unfold Oper.wp execOp
  simp only [ho, List.map_toArray, List.map_cons, List.map_nil, hu, Sem.run_bind, Sem.run_pure, Result.andThen_ok, hrun, Oper.upon, hd]
  exact h
theorem wpOp_app1 {i : Nat} {o : Oper} {d s x U E B n g : Nat} {i0 : TypeInfo} {z v u : Value} {xs : List Value} {K : Act → World → Prop} {a : Act} {w w0 : World} (hi : ops[i]? = some o) (hg : o.guard = none) (hd : o.dst = some d)
    (ho : o.op = .call { callee := .builtin .append, args := #[.tmp s, .tmp x], argTypes := #[U, U] }) (ht : P.underlying U = some (.slice E)) (hi0 : P.info? E = some i0) (hz : i0.zero = some z) (hz1 : i0.size = 1) (hz2 : i0.bytes = B) (hzs : z.cells.size = 1)
    (hs : a.eval (.tmp s) = v) (hx : a.eval (.tmp x) = .slice (some ⟨g, 0, none⟩) 1 1) (hown : w.ownsRow w0.heap.size E 1 v n xs) (hbel : Below w0.heap.size w0 w) (hrow : w.heap[g]? = some (.cells #[u] E (0, 0))) (hu : u.oneCell' = true)
    (h63 : n + 1 ≤ maxLen) (hbytes : (n + 1) * B ≤ 140737488355328)
    (h : ∀ v' w', w'.ownsRow w0.heap.size E 1 v' (n + 1) (xs ++ [u]) → Below w0.heap.size w0 w' → (∀ g' o', v.ownBlock ≠ some g' → w.heap[g']? = some o' → w'.heap[g']? = some o') → w.heap.size ≤ w'.heap.size → K (a.put (some d) v') w') : wpOp P ops Q i K a w := by
  unfold wpOp
  simp only [hi]
  have hw : Region.wanted o (yielded ops a.tmps) = true := by simp [Region.wanted, hg]
  rw [if_pos hw]
  refine .inl ?_
  refine wp_append_lies w (.tmp s) (.tmp x) U ho w0.heap.size E i0 z 1 B ht hi0 hz hz1 hz2 hzs (by decide) v n xs hs hown ⟨g, 0, none⟩ 1 1 [u] hx rfl (World.news_of_block (cs := #[u]) hrow) (by intro y hy; rw [List.mem_singleton.1 hy]; exact hu) (by decide) h63 hbytes hbel.size _ rfl ?_
  intro g' cap w' h1 h2 _ _
  rw [hd]
  refine h _ _ h1 (hbel.grown h2 hbel.size (fun m hm => (hown.lt m hm).1)) (fun k o' hk ho' => ?_) h2.size
  have hlt : k < w.heap.size := (Array.getElem?_eq_some_iff.1 ho').1
  rw [h2.block k hlt (Ne.symm hk)]
  exact ho'
theorem wpOp_assign {i : Nat} {o : Oper} {d s : Nat} {v : Value} {K : Act → World → Prop} {a : Act} {w : World} (hi : ops[i]? = some o) (hg : o.guard = none) (hd : o.dst = some d) (ho : o.op = .assign (.tmp s)) (hv : a.eval (.tmp s) = v) (h : K (a.put (some d) v) w) : wpOp P ops Q i K a w := by
  unfold wpOp
  simp only [hi]
  have hw : Region.wanted o (yielded ops a.tmps) = true := by simp [Region.wanted, hg]
  rw [if_pos hw]
  refine .inl ?_
  unfold Oper.wp
  rw [BigFrame.run_assign (.tmp s) ho]
  simp only [Oper.upon, hd, hv]
  exact h

/-- A slice that the function owns, a class of worlds. -/
theorem two_app {L : Array Bool} {A : Act} {w w0 : World} {i1 i2 i3 i4 i5 U E B n s0 d1 d2 d3 d4 d5 x1 x3 : Nat} {o1 o2 o3 o4 o5 : Oper} {i0 : TypeInfo} {z v u1 u2 : Value} {xs : List Value}
    (h1 : ops[i1]? = some o1) (h2 : ops[i2]? = some o2) (h3 : ops[i3]? = some o3) (h4 : ops[i4]? = some o4) (h5 : ops[i5]? = some o5)
    (g1 : o1.guard = none) (g2 : o2.guard = none) (g3 : o3.guard = none) (g4 : o4.guard = none) (g5 : o5.guard = none)
    (e1 : o1.dst = some d1) (e2 : o2.dst = some d2) (e3 : o3.dst = some d3) (e4 : o4.dst = some d4) (e5 : o5.dst = some d5)
    (p1 : o1.op = .buildSlice U 1 #[(0, .tmp x1)]) (p3 : o3.op = .buildSlice U 1 #[(0, .tmp x3)])
    (p2 : o2.op = .call { callee := .builtin .append, args := #[.tmp s0, .tmp d1], argTypes := #[U, U] })
    (p4 : o4.op = .call { callee := .builtin .append, args := #[.tmp d2, .tmp d3], argTypes := #[U, U] }) (p5 : o5.op = .assign (.tmp d4))
    (r0 : Region.ready .any ops L = [i1, i3]) (r1 : Region.ready .any ops (L.setIfInBounds i1 true) = [i2, i3]) (r3 : Region.ready .any ops (L.setIfInBounds i3 true) = [i1])
    (r12 : Region.ready .any ops ((L.setIfInBounds i1 true).setIfInBounds i2 true) = [i3]) (r13 : Region.ready .any ops ((L.setIfInBounds i1 true).setIfInBounds i3 true) = [i2])
    (r4 : Region.ready .any ops (((L.setIfInBounds i1 true).setIfInBounds i2 true).setIfInBounds i3 true) = [i4])
    (r5 : Region.ready .any ops ((((L.setIfInBounds i1 true).setIfInBounds i2 true).setIfInBounds i3 true).setIfInBounds i4 true) = [i5])
    (r6 : Region.ready .any ops (((((L.setIfInBounds i1 true).setIfInBounds i2 true).setIfInBounds i3 true).setIfInBounds i4 true).setIfInBounds i5 true) = [])
    (hne : d1 ≠ d2 ∧ d1 ≠ d3 ∧ d2 ≠ d3 ∧ d1 ≠ s0 ∧ d3 ≠ s0 ∧ d1 ≠ x3 ∧ d2 ≠ x3 ∧ d3 ≠ x1 ∧ i1 ≠ i3 ∧ i2 ≠ i3) (hsz : d1 < A.tmps.size ∧ d2 < A.tmps.size ∧ d3 < A.tmps.size ∧ d4 < A.tmps.size)
    (ht : P.underlying U = some (.slice E)) (hi0 : P.info? E = some i0) (hz : i0.zero = some z) (hz1 : i0.size = 1) (hz2 : i0.bytes = B) (hzs : z.cells.size = 1)
    (hrun : ∀ (u : Value) (w : World), u.oneCell' = true → (Instr.buildSlice U 1 #[(0, u)]).run P w = .ok (.slice (some ⟨w.heap.size, 0, none⟩) 1 1) (w.alloc (.cells #[u] E (0, 0))))
    (hv : A.eval (.tmp s0) = v) (hu1 : A.eval (.tmp x1) = u1) (hu2 : A.eval (.tmp x3) = u2) (c1 : u1.oneCell' = true) (c2 : u2.oneCell' = true)
    (hown : w.ownsRow w0.heap.size E 1 v n xs) (hbel : Below w0.heap.size w0 w) (h63 : n + 2 ≤ maxLen) (hbytes : (n + 2) * B ≤ 140737488355328)
    (hK : ∀ t1 t2 t3 t4 w', w'.ownsRow w0.heap.size E 1 t4 (n + 2) (xs ++ [u1, u2]) → Below w0.heap.size w0 w' → Q .normal (((((A.put (some d1) t1).put (some d2) t2).put (some d3) t3).put (some d4) t4).put (some d5) t4) w') :
    wpAnyH P .any ops Q (fun w' => Below w0.heap.size w0 w') 5 L A w := by
  obtain ⟨n12, n13, n23, n1s, n3s, n1x, n2x, n3x, m13, m23⟩ := hne
  obtain ⟨z1, z2, z3, z4⟩ := hsz
  have sz : ∀ (a : Act) d v, (a.put d v).tmps.size = a.tmps.size := fun a d v => by cases d <;> simp [Act.put]
  have cm : ∀ (a : Act) (x y : Nat) v u, x ≠ y → (a.put (some x) v).put (some y) u = (a.put (some y) u).put (some x) v := fun a x y v u h => Act.put_comm a v u (by intro d hd e; cases hd; cases e; exact h rfl)
  have ne : ∀ (a : Act) (d j : Nat) v, d ≠ j → (a.put (some d) v).eval (.tmp j) = a.eval (.tmp j) := Act.eval_put_ne
  -- the last append, and the assignment
  have F4 : ∀ t1 t2 b3 w', w'.ownsRow w0.heap.size E 1 t2 (n + 1) (xs ++ [u1]) → w'.heap[b3]? = some (.cells #[u2] E (0, 0)) → Below w0.heap.size w0 w' →
      wpAnyH P .any ops Q (fun w' => Below w0.heap.size w0 w') 2 (((L.setIfInBounds i1 true).setIfInBounds i2 true).setIfInBounds i3 true) (((A.put (some d1) t1).put (some d2) t2).put (some d3) (.slice (some ⟨b3, 0, none⟩) 1 1)) w' := by
    intro t1 t2 b3 w' ho hr hb
    refine wpAnyH_all r4 (by simp) (List.forall_mem_singleton.2 ?_)
    refine wpOp_app1 h4 g4 e4 p4 ht hi0 hz hz1 hz2 hzs (v := t2) (g := b3) (by rw [ne _ _ _ _ n23.symm]; exact Act.eval_put_same _ _ _ (by rw [sz]; exact z2)) (Act.eval_put_same _ _ _ (by rw [sz, sz]; exact z3)) ho hb hr c2 h63 hbytes ?_
    intro v' w'' ho' hb' _ _
    refine ⟨hb', wpAnyH_all r5 (by simp) (List.forall_mem_singleton.2 ?_)⟩
    refine wpOp_assign h5 g5 e5 p5 (v := v') (Act.eval_put_same _ _ _ (by rw [sz, sz, sz]; exact z4)) ⟨hb', wpAnyH_done r6 ?_ _⟩
    exact hK _ _ _ _ _ (by rw [List.append_assoc] at ho'; exact ho') hb'
  -- the second is built behind the first append
  have F3 : ∀ t1 t2 w', w'.ownsRow w0.heap.size E 1 t2 (n + 1) (xs ++ [u1]) → Below w0.heap.size w0 w' →
      wpAnyH P .any ops Q (fun w' => Below w0.heap.size w0 w') 3 ((L.setIfInBounds i1 true).setIfInBounds i2 true) ((A.put (some d1) t1).put (some d2) t2) w' := by
    intro t1 t2 w' ho hb
    refine wpAnyH_all r12 (by simp) (List.forall_mem_singleton.2 ?_)
    refine wpOp_build1 (u := u2) h3 g3 e3 p3 (hrun _ _ c2) (by rw [ne _ _ _ _ n2x, ne _ _ _ _ n1x]; exact hu2) ⟨below_alloc hb _, ?_⟩
    exact F4 _ _ _ _ (ho.alloc _) (heap_alloc_new _ _) (below_alloc hb _)
  -- both are built
  have F2 : ∀ b1 b3 w', w'.ownsRow w0.heap.size E 1 v n xs → w'.heap[b1]? = some (.cells #[u1] E (0, 0)) → w'.heap[b3]? = some (.cells #[u2] E (0, 0)) → v.ownBlock ≠ some b3 → Below w0.heap.size w0 w' →
      wpAnyH P .any ops Q (fun w' => Below w0.heap.size w0 w') 3 ((L.setIfInBounds i1 true).setIfInBounds i3 true) ((A.put (some d1) (.slice (some ⟨b1, 0, none⟩) 1 1)).put (some d3) (.slice (some ⟨b3, 0, none⟩) 1 1)) w' := by
    intro b1 b3 w' ho hr1 hr3 hno hb
    refine wpAnyH_all r13 (by simp) (List.forall_mem_singleton.2 ?_)
    refine wpOp_app1 h2 g2 e2 p2 ht hi0 hz hz1 hz2 hzs (v := v) (g := b1) (by rw [ne _ _ _ _ n3s, ne _ _ _ _ n1s]; exact hv) (by rw [ne _ _ _ _ n13.symm]; exact Act.eval_put_same _ _ _ z1) ho hb hr1 c1 (by omega) (Nat.le_trans (Nat.mul_le_mul_right _ (by omega)) hbytes) ?_
    intro v' w'' ho' hb' hkeep _
    refine ⟨hb', ?_⟩
    rw [Array.setIfInBounds_comm _ _ (Ne.symm m23), cm _ _ _ _ _ n23.symm]
    exact F4 _ _ _ _ ho' (hkeep _ _ hno hr3) hb'
  have hlt : ∀ w' : World, w'.ownsRow w0.heap.size E 1 v n xs → v.ownBlock ≠ some w'.heap.size := fun w' ho h => by have := (ho.lt _ h).2; omega
  refine wpAnyH_all r0 (by simp) ?_
  intro j hj
  rcases List.mem_cons.1 hj with rfl | hj
  · refine wpOp_build1 (u := u1) h1 g1 e1 p1 (hrun _ _ c1) hu1 ⟨below_alloc hbel _, wpAnyH_all r1 (by simp) ?_⟩
    intro j hj
    rcases List.mem_cons.1 hj with rfl | hj
    · refine wpOp_app1 h2 g2 e2 p2 ht hi0 hz hz1 hz2 hzs (v := v) (g := w.heap.size) (by rw [ne _ _ _ _ n1s]; exact hv) (Act.eval_put_same _ _ _ z1) (hown.alloc _) (below_alloc hbel _) (heap_alloc_new _ _) c1 (by omega) (Nat.le_trans (Nat.mul_le_mul_right _ (by omega)) hbytes) ?_
      intro v' w'' ho' hb' _ _
      exact ⟨hb', F3 _ _ _ ho' hb'⟩
    · rw [List.mem_singleton.1 hj]
      refine wpOp_build1 (u := u2) h3 g3 e3 p3 (hrun _ _ c2) (by rw [ne _ _ _ _ n1x]; exact hu2) ⟨below_alloc (below_alloc hbel _) _, ?_⟩
      refine F2 _ _ _ ((hown.alloc _).alloc _) ?_ (heap_alloc_new _ _) (hlt _ (hown.alloc _)) (below_alloc (below_alloc hbel _) _)
      rw [heap_alloc_old _ _ (by rw [World.size_alloc]; omega)]
      exact heap_alloc_new _ _
  · rw [List.mem_singleton.1 hj]
    refine wpOp_build1 (u := u2) h3 g3 e3 p3 (hrun _ _ c2) hu2 ⟨below_alloc hbel _, wpAnyH_all r3 (by simp) (List.forall_mem_singleton.2 ?_)⟩
    refine wpOp_build1 (u := u1) h1 g1 e1 p1 (hrun _ _ c1) (by rw [ne _ _ _ _ n3x]; exact hu1) ⟨below_alloc (below_alloc hbel _) _, ?_⟩
    rw [Array.setIfInBounds_comm _ _ (Ne.symm m13), cm _ _ _ _ _ n13.symm]
    refine F2 _ _ _ ((hown.alloc _).alloc _) (heap_alloc_new _ _) ?_ (hlt _ hown) (below_alloc (below_alloc hbel _) _)
    rw [heap_alloc_old _ _ (by rw [World.size_alloc]; omega)]
    exact heap_alloc_new _ _
end
end Go.Proofs.YtfckjilhkdlpfaaDoor
