/-
  A row of the call's own whose block may carry a frozen mark behind its cells (what a string turned into bytes lies in): appended to, one element a time.
-/
import Derived.Test.YtfckjilhkdlpfaaDoorUtil
import Derived.ArgAppend
import Derived.Below
namespace MS
open Go Go.RowKit

/-- The value v has its n elements, the cells xs, in a row of the call's own; none of the row's cells is frozen. -/
def ownsF (w : World) (base : Nat) (e : TypeId) (v : Value) (n : Nat) (xs : List Value) : Prop :=
  xs.length = n ∧ ∃ (g cap : Nat) (cur : Array Value) (fr : Nat × Nat), v = .slice (some ⟨g, 0, none⟩) n cap ∧ base ≤ g ∧ w.heap[g]? = some (.cells cur e fr) ∧ n ≤ cap ∧ cap ≤ maxLen ∧ cur.size = cap ∧ (fr = (0, 0) ∨ cap ≤ fr.1) ∧ cur.toList.take n = xs

theorem ownsF.lt {w : World} {base : Nat} {e : TypeId} {v : Value} {n : Nat} {xs : List Value} (h : ownsF w base e v n xs) : ∀ k, v.ownBlock = some k → base ≤ k ∧ k < w.heap.size := by
  obtain ⟨_, g, cap, cur, fr, rfl, hb, hg, _⟩ := h
  intro k hk
  simp [Value.ownBlock] at hk
  subst hk
  exact ⟨hb, (Array.getElem?_eq_some_iff.1 hg).1⟩
theorem ownsF.alloc {w : World} {base : Nat} {e : TypeId} {v : Value} {n : Nat} {xs : List Value} (h : ownsF w base e v n xs) (o : Obj) : ownsF (w.alloc o) base e v n xs := by
  obtain ⟨h1, g, cap, cur, fr, rfl, hb, hg, h2⟩ := h
  exact ⟨h1, g, cap, cur, fr, rfl, hb, ((MapKept.heap_alloc w o).2 _ (Array.getElem?_eq_some_iff.1 hg).1).trans hg, h2⟩
theorem ownsF.on {w w' : World} {base : Nat} {e : TypeId} {v : Value} {n : Nat} {xs : List Value} (h : ownsF w base e v n xs) (hb' : Below w.heap.size w w') : ownsF w' base e v n xs := by
  obtain ⟨h1, g, cap, cur, fr, rfl, hb, hg, h2⟩ := h
  exact ⟨h1, g, cap, cur, fr, rfl, hb, (hb'.block _ (Array.getElem?_eq_some_iff.1 hg).1).trans hg, h2⟩
theorem ownsF.drew {w : World} {base : Nat} {e : TypeId} {v : Value} {n : Nat} {xs : List Value} (h : ownsF w base e v n xs) : ownsF w.drew base e v n xs := h
theorem ownsF.form {w : World} {base : Nat} {e : TypeId} {v : Value} {n : Nat} {xs : List Value} (h : ownsF w base e v n xs) : ∃ g cap, v = .slice (some ⟨g, 0, none⟩) n cap ∧ n ≤ cap ∧ cap ≤ maxLen ∧ g < w.heap.size := by
  obtain ⟨_, g, cap, cur, fr, rfl, hb, hg, h2, h3, _⟩ := h
  exact ⟨g, cap, rfl, h2, h3, (Array.getElem?_eq_some_iff.1 hg).1⟩
theorem ownsF.cell {w : World} {base : Nat} {e : TypeId} {n g cap : Nat} {xs : List Value} (h : ownsF w base e (.slice (some ⟨g, 0, none⟩) n cap) n xs) (j : Nat) (hj : j < n) : w.cell? ⟨g, j, none⟩ = xs[j]? := by
  obtain ⟨h1, g', cap', cur, fr, e1, hb, hg, h2, h3, h4, h5, h6⟩ := h
  simp only [Value.slice.injEq, Option.some.injEq, Addr.mk.injEq] at e1
  obtain ⟨⟨rfl, _, _⟩, _, rfl⟩ := e1
  rw [← h6, List.getElem?_take_of_lt hj]
  simp [World.cell?, hg]

theorem frozen_out {w : World} {g cap : Nat} {cur : Array Value} {e : TypeId} {fr : Nat × Nat} (hg : w.heap[g]? = some (.cells cur e fr)) (h : fr = (0, 0) ∨ cap ≤ fr.1) (j : Nat) (hj : j < cap) : w.frozen? ⟨g, j, none⟩ = false := by
  obtain ⟨lo, hi⟩ := fr
  simp only [World.frozen?, hg]
  rcases h with h | h
  · cases h; simp
  · simp only at h
    simp only [Bool.and_eq_false_iff, decide_eq_false_iff_not]
    left; omega

theorem setCell_cells {w : World} {g i : Nat} {cs : Array Value} {e : TypeId} {fr : Nat × Nat} (v : Value) (hg : w.heap[g]? = some (.cells cs e fr)) : (w.setCell ⟨g, i, none⟩ v).heap[g]? = some (.cells (cs.setIfInBounds i v) e fr) := by
  simp [World.setCell, Array.getElem?_modify, hg]
theorem setCell_other' {w : World} {g i k : Nat} (v : Value) (hk : k ≠ g) : (w.setCell ⟨g, i, none⟩ v).heap[k]? = w.heap[k]? := by
  simp [World.setCell, Array.getElem?_modify, Ne.symm hk]

theorem take_set (l : List Value) (n : Nat) (x : Value) (h : n < l.length) : (l.set n x).take (n + 1) = l.take n ++ [x] := by
  apply List.ext_getElem?
  intro j
  rw [List.getElem?_take, List.getElem?_set, List.getElem?_append]
  have hl : (l.take n).length = n := by simp; omega
  rw [hl]
  by_cases h1 : j < n
  · rw [if_pos (by omega), if_neg (by omega), if_pos h1, List.getElem?_take, if_pos h1]
  · rw [if_neg h1]
    by_cases h2 : j = n
    · subst h2; simp [h]
    · rw [if_neg (by omega), List.getElem?_eq_none (by simp; omega)]

section
variable {P : Program}
theorem run_append_f (w : World) (base : Nat) (t ty e : TypeId) (i : TypeInfo) (z : Value) (ht : P.underlying t = some (.slice e)) (hi : P.info? e = some i) (hz : i.zero = some z) (hsize : i.size = 1) (hby : i.bytes = 1) (hzs : z.cells.size = 1)
    (v : Value) (n : Nat) (xs : List Value) (hown : ownsF w base e v n xs) (ad : Addr) (c : Nat) (x : Value) (hnew : w.cell? ad = some x) (h1 : x.oneCell' = true) (hn : n + 1 ≤ 140737488355328) (hbase : base ≤ w.heap.size) :
    ∃ v' w', (Builtin.append_ #[t, t] ty #[v, .slice (some ad) 1 c]).run P w = .ok v' w' ∧ ownsF w' base e v' (n + 1) (xs ++ [x]) ∧ w.grownBy w' v.ownBlock := by
  have hown0 := hown
  obtain ⟨hl, g, cap, cur, fr, rfl, hbg, hg, hnc, hcm, hcs, hfr, htake⟩ := hown
  have hnl : ([x] : List Value).length = 1 * i.size := by rw [hsize]; rfl
  have hnews : ∀ j u, [x][j]? = some u → w.cell? (ad.add j) = some u := by
    intro j u hu
    cases j with
    | zero =>
      simp at hu; subst hu
      have : ad.add 0 = ad := by unfold Addr.add; split <;> simp_all
      rw [this]; exact hnew
    | succ j => simp at hu
  by_cases hroom : n + 1 ≤ cap
  · have hcell : (w.cell? ⟨g, n, none⟩).isSome = true := by simp [World.cell?, hg]; omega
    have hr := run_append_room_cells (P := P) w t ty e i ht hi g 0 n cap ad 1 c [x] hnl hnews (by simpa using h1) hroom
      (fun j hj => by
        have : j = 0 := by simpa using hj
        subst this
        rw [hsize, Nat.zero_add, Nat.mul_one, Nat.add_zero]; exact hcell)
      (fun j hj => by
        have : j = 0 := by simpa using hj
        subst this
        rw [hsize, Nat.zero_add, Nat.mul_one, Nat.add_zero]; exact frozen_out hg hfr n (by omega))
    rw [hsize, Nat.zero_add, Nat.mul_one] at hr
    have hw : w.setCells g n [x] = w.setCell ⟨g, n, none⟩ x := rfl
    rw [hw] at hr
    refine ⟨_, _, hr, ⟨by simp [hl], g, cap, cur.setIfInBounds n x, fr, rfl, hbg, setCell_cells x hg, hroom, hcm, by simp [hcs], hfr, ?_⟩, ⟨rfl, rfl, rfl, by simp [World.setCell], fun k _ hk => setCell_other' x (fun e => hk (by simp [Value.ownBlock, e]))⟩⟩
    rw [Array.toList_setIfInBounds, take_set _ _ _ (by simp; omega), htake]
  · have holds : ∀ j u, xs[j]? = some u → w.cell? ((⟨g, 0, none⟩ : Addr).add j) = some u := fun j u hu => by
      have hj : j < n := by rw [← hl]; exact (List.getElem?_eq_some_iff.1 hu).1
      rw [Addr.add_lit, Nat.zero_add, hown0.cell j hj, hu]
    have hr := run_append_grow (P := P) w t ty e i z ht hi hz ⟨g, 0, none⟩ n cap xs (by rw [hsize, hl, Nat.mul_one]) holds ad 1 c [x] hnl hnews (by omega) (by omega) (by
      have := growslice_fits (need := n + 1) (old := cap) (bytes := i.bytes) (by omega) (by rw [hby]; omega)
      exact this)
    have hge := grownCap_ge w (n + 1) cap e
    have hcm' : grownCap w (n + 1) cap e ≤ maxLen := grownCap_le_maxLen w (n + 1) cap e (by unfold maxLen; omega)
    refine ⟨_, _, hr, ⟨by simp [hl], w.heap.size, _, _, (0, 0), rfl, hbase, heap_alloc_new w.drew _, hge, hcm', ?_, .inl rfl, ?_⟩, ⟨rfl, rfl, rfl, by simp, fun k hk _ => (MapKept.heap_alloc w.drew _).2 k hk⟩⟩
    · simp only [Array.size_append, List.size_toArray, size_zeroCells, hzs, hl, List.length_cons, List.length_nil]
      omega
    · have h7 : (xs ++ [x]).length = n + 1 := by simp [hl]
      simp only [Array.toList_append]
      rw [← h7]
      exact List.take_left
theorem wpList_append_f (w : World) {ops : Array Oper} {rest : List Oper} {o : Oper} {a : Act} {Q : Exit → Act → World → Prop} (hgd : o.guard = none) (s x : Operand) (t : TypeId)
    (ho : o.op = .call { callee := .builtin .append, args := #[s, x], argTypes := #[t, t] })
    (base : Nat) (e : TypeId) (i : TypeInfo) (z : Value) (ht : P.underlying t = some (.slice e)) (hi : P.info? e = some i) (hz : i.zero = some z) (hsize : i.size = 1) (hby : i.bytes = 1) (hzs : z.cells.size = 1)
    (v : Value) (n : Nat) (xs : List Value) (hs : a.eval s = v) (hown : ownsF w base e v n xs)
    (ad : Addr) (c : Nat) (u : Value) (hx : a.eval x = .slice (some ad) 1 c) (hnew : w.cell? ad = some u) (h1 : u.oneCell' = true) (hn : n + 1 ≤ 140737488355328) (hbase : base ≤ w.heap.size)
    (h : ∀ v' w', ownsF w' base e v' (n + 1) (xs ++ [u]) → w.grownBy w' v.ownBlock → wpList P ops Q rest (a.put o.dst v') w') : wpList P ops Q (o :: rest) a w := by
  refine wpList_plain hgd fun K hK => ?_
  obtain ⟨v', w', hr, h2, h3⟩ := run_append_f (P := P) w base t o.type e i z ht hi hz hsize hby hzs v n xs hown ad c u hnew h1 hn hbase
  unfold Oper.wp
  simp [execOp, ho, resolve, invoke, builtin, hs, hx, hr, Result.andThen]
  exact hK _ _ (h v' w' h2 h3)

/-- A string turned into bytes owns such a row. -/
theorem ownsF_bytes (w : World) (base : Nat) (e : TypeId) (s : ByteArray) (hb : base ≤ w.heap.size) (hs : s.size ≤ maxLen) :
    ownsF (Lib.bytesWorld w e s) base e (.slice (some ⟨w.heap.size, 0, none⟩) s.size (grownCap w s.size 0 e)) s.size (s.data.toList.map fun b => Value.int .u8 b.toNat) := by
  have hge := grownCap_ge w s.size 0 e
  have hd : s.data.size = s.size := rfl
  have hsz : (Lib.bytesCells w e s).size = grownCap w s.size 0 e := by
    simp only [Lib.bytesCells, Array.size_append, Array.size_map, Array.size_replicate, hd]
    omega
  refine ⟨by simp, w.heap.size, _, _, _, rfl, hb, Lib.bytesWorld_at_new w e s, hge, grownCap_le_maxLen w _ _ _ hs, hsz, .inr (by rw [hsz]; exact Nat.le_refl _), ?_⟩
  simp only [Lib.bytesCells, Array.toList_append, Array.toList_map]
  have h7 : (s.data.toList.map fun b => Value.int .u8 b.toNat).length = s.size := by simp
  rw [← h7]
  exact List.take_left
theorem below_bytes (w : World) (e : TypeId) (s : ByteArray) : Below w.heap.size w (Lib.bytesWorld w e s) :=
  ⟨rfl, rfl, rfl, by rw [Lib.bytesWorld_size]; omega, fun j hj => Lib.bytesWorld_at_old w e s j hj⟩
theorem wpList_conv_f {w : World} {ops : Array Oper} {rest : List Oper} {o : Oper} {a : Act} {Q : Exit → Act → World → Prop} (hgd : o.guard = none) (x : Operand) (src dst e : TypeId) (ho : o.op = .convert src dst x)
    (s : ByteArray) (hx : a.eval x = .string s) {u : TypeDesc} (hs : P.underlying src = some u) (hd : P.underlying dst = some (.slice e)) (he : P.underlying e = some (.int .u8))
    (h : wpList P ops Q rest (a.put o.dst (.slice (some ⟨w.heap.size, 0, none⟩) s.size (grownCap w s.size 0 e))) (Lib.bytesWorld w e s)) : wpList P ops Q (o :: rest) a w := by
  refine wpList_plain hgd fun K hK => ?_
  unfold Oper.wp
  simp [execOp, ho, hx, Lib.run_convert_string_bytes w src dst e s hs hd he]
  exact hK _ _ h
theorem wpList_conv_own {w : World} {ops : Array Oper} {rest : List Oper} {o : Oper} {a : Act} {Q : Exit → Act → World → Prop} (hgd : o.guard = none) (x : Operand) (src dst e : TypeId) (ho : o.op = .convert src dst x)
    (s : ByteArray) (hx : a.eval x = .string s) {u : TypeDesc} (hs : P.underlying src = some u) (hd : P.underlying dst = some (.slice e)) (he : P.underlying e = some (.int .u8)) (base n : Nat) (hn : s.size = n) (hb : base ≤ w.heap.size) (hm : n ≤ maxLen)
    (h : ∀ g cap w', ownsF w' base e (.slice (some ⟨g, 0, none⟩) n cap) n (s.data.toList.map fun b => Value.int .u8 b.toNat) → Below w.heap.size w w' → wpList P ops Q rest (a.put o.dst (.slice (some ⟨g, 0, none⟩) n cap)) w') : wpList P ops Q (o :: rest) a w := by
  subst hn
  exact wpList_conv_f hgd x src dst e ho s hx hs hd he (h _ _ _ (ownsF_bytes w base e s hb hm) (below_bytes w e s))
theorem ownsF.put {w : World} {base : Nat} {e : TypeId} {n g cap : Nat} {xs : List Value} (h : ownsF w base e (.slice (some ⟨g, 0, none⟩) n cap) n xs) (i : Nat) (x : Value) : ownsF (w.setCell ⟨g, i, none⟩ x) base e (.slice (some ⟨g, 0, none⟩) n cap) n (xs.set i x) := by
  obtain ⟨h1, g', cap', cur, fr, e1, hb, hg, h2, h3, h4, h5, h6⟩ := h
  simp only [Value.slice.injEq, Option.some.injEq, Addr.mk.injEq] at e1
  obtain ⟨⟨rfl, _, _⟩, _, rfl⟩ := e1
  refine ⟨by simp [h1], g, cap, cur.setIfInBounds i x, fr, rfl, hb, setCell_cells x hg, h2, h3, by simp [h4], h5, ?_⟩
  rw [Array.toList_setIfInBounds, List.take_set, h6]
theorem ownsF.free {w : World} {base : Nat} {e : TypeId} {n g cap : Nat} {xs : List Value} (h : ownsF w base e (.slice (some ⟨g, 0, none⟩) n cap) n xs) (j : Nat) (hj : j < n) : w.frozen? ⟨g, j, none⟩ = false := by
  obtain ⟨h1, g', cap', cur, fr, e1, hb, hg, h2, h3, h4, h5, h6⟩ := h
  simp only [Value.slice.injEq, Option.some.injEq, Addr.mk.injEq] at e1
  obtain ⟨⟨rfl, _, _⟩, _, rfl⟩ := e1
  exact frozen_out hg h5 j (by omega)
theorem ownsF.ge {w : World} {base : Nat} {e : TypeId} {n g cap : Nat} {xs : List Value} (h : ownsF w base e (.slice (some ⟨g, 0, none⟩) n cap) n xs) : base ≤ g := by
  obtain ⟨h1, g', cap', cur, fr, e1, hb, _⟩ := h
  simp only [Value.slice.injEq, Option.some.injEq, Addr.mk.injEq] at e1
  obtain ⟨⟨rfl, _, _⟩, _⟩ := e1
  exact hb
/-- A string out of a part of such a row. -/
theorem ownsF_conv (w : World) (base : Nat) (src dst e : TypeId) (hs : P.underlying src = some (.slice e)) (he : P.underlying e = some (.int .u8)) (hd : P.underlying dst = some .string)
    {g n cap : Nat} {l : List UInt8} (h : ownsF w base e (.slice (some ⟨g, 0, none⟩) n cap) n (l.map fun b => Value.int .u8 (b.toNat : Int))) (a m c2 : Nat) (ha : a + m ≤ n) :
    (convert src dst (.slice (some ⟨g, a, none⟩) m c2)).run P w = .ok (.string (bs ((l.drop a).take m))) w := by
  have hl : l.length = n := by simpa using h.1
  refine run_bytes_to_string w src dst e hs he hd g a m c2 _ (by simp; omega) (fun j hj => ?_)
  have hj' : j < m := by simp at hj; omega
  rw [h.cell (a + j) (by omega)]
  simp [show a + j < l.length by omega]
end
end MS
