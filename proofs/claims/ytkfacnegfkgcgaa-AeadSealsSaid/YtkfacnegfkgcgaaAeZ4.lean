/-
  Texts of this seat, put together: OwnF, PRa, PRb, PRc, PRd, PRe, PRf, AeD, AeE, AeF, AeG.
-/
import Derived.Test.YtkfacnegfkgcgaaAeZ3
import Derived.ArgAppend
import Derived.Below
import Derived.Laws.OwnMore
import Derived.OwnWalk
import Derived.Deep.RegionWith
import Derived.Deep.DeepCutAuto

/-
  A row of the call's own whose block may carry a frozen mark behind its cells (what a string turned into bytes lies in): appended to, one element a time.
-/
namespace MS
open Go Go.RowKit

/-- The value v has its n elements, the cells xs, in a row of the call's own; none of the row's cells is frozen. -/
def ownsF (w : World) (base : Nat) (e : TypeId) (v : Value) (n : Nat) (xs : List Value) : Prop :=
  xs.length = n ∧ ∃ (g cap : Nat) (cur : Array Value) (fr : Nat × Nat), v = .slice (some ⟨g, 0, none⟩) n cap ∧ base ≤ g ∧ w.heap[g]? = some (.cells cur e fr) ∧ n ≤ cap ∧ cap ≤ maxLen ∧ cur.size = cap ∧ (fr = (0, 0) ∨ cap ≤ fr.1) ∧ cur.toList.take n = xs

theorem ownsF.lt {w : World} {base : Nat} {e : TypeId} {v : Value} {n : Nat} {xs : List Value} (h : ownsF w base e v n xs) : ∀ k, v.ownBlock = some k → base ≤ k ∧ k < w.heap.size := by
  obtain ⟨_, g, cap, cur, fr, rfl, hb, hg, _⟩ := h
  intro k hk
  simp [Value.ownBlock] at hk
  subst hk
  exact ⟨hb, (Array.getElem?_eq_some_iff.1 hg).1⟩
theorem ownsF.alloc {w : World} {base : Nat} {e : TypeId} {v : Value} {n : Nat} {xs : List Value} (h : ownsF w base e v n xs) (o : Obj) : ownsF (w.alloc o) base e v n xs := by
  obtain ⟨h1, g, cap, cur, fr, rfl, hb, hg, h2⟩ := h
  exact ⟨h1, g, cap, cur, fr, rfl, hb, ((MapKept.heap_alloc w o).2 _ (Array.getElem?_eq_some_iff.1 hg).1).trans hg, h2⟩
theorem ownsF.on {w w' : World} {base : Nat} {e : TypeId} {v : Value} {n : Nat} {xs : List Value} (h : ownsF w base e v n xs) (hb' : Below w.heap.size w w') : ownsF w' base e v n xs := by
  obtain ⟨h1, g, cap, cur, fr, rfl, hb, hg, h2⟩ := h
  exact ⟨h1, g, cap, cur, fr, rfl, hb, (hb'.block _ (Array.getElem?_eq_some_iff.1 hg).1).trans hg, h2⟩
theorem ownsF.drew {w : World} {base : Nat} {e : TypeId} {v : Value} {n : Nat} {xs : List Value} (h : ownsF w base e v n xs) : ownsF w.drew base e v n xs := h
theorem ownsF.form {w : World} {base : Nat} {e : TypeId} {v : Value} {n : Nat} {xs : List Value} (h : ownsF w base e v n xs) : ∃ g cap, v = .slice (some ⟨g, 0, none⟩) n cap ∧ n ≤ cap ∧ cap ≤ maxLen ∧ g < w.heap.size := by
  obtain ⟨_, g, cap, cur, fr, rfl, hb, hg, h2, h3, _⟩ := h
  exact ⟨g, cap, rfl, h2, h3, (Array.getElem?_eq_some_iff.1 hg).1⟩
theorem ownsF.cell {w : World} {base : Nat} {e : TypeId} {n g cap : Nat} {xs : List Value} (h : ownsF w base e (.slice (some ⟨g, 0, none⟩) n cap) n xs) (j : Nat) (hj : j < n) : w.cell? ⟨g, j, none⟩ = xs[j]? := by
  obtain ⟨h1, g', cap', cur, fr, e1, hb, hg, h2, h3, h4, h5, h6⟩ := h
  simp only [Value.slice.injEq, Option.some.injEq, Addr.mk.injEq] at e1
  obtain ⟨⟨rfl, _, _⟩, _, rfl⟩ := e1
  rw [← h6, List.getElem?_take_of_lt hj]
  simp [World.cell?, hg]

theorem frozen_out {w : World} {g cap : Nat} {cur : Array Value} {e : TypeId} {fr : Nat × Nat} (hg : w.heap[g]? = some (.cells cur e fr)) (h : fr = (0, 0) ∨ cap ≤ fr.1) (j : Nat) (hj : j < cap) : w.frozen? ⟨g, j, none⟩ = false := by
  obtain ⟨lo, hi⟩ := fr
  simp only [World.frozen?, hg]
  rcases h with h | h
  · cases h; simp
  · simp only at h
    simp only [Bool.and_eq_false_iff, decide_eq_false_iff_not]
    left; omega

theorem setCell_cells {w : World} {g i : Nat} {cs : Array Value} {e : TypeId} {fr : Nat × Nat} (v : Value) (hg : w.heap[g]? = some (.cells cs e fr)) : (w.setCell ⟨g, i, none⟩ v).heap[g]? = some (.cells (cs.setIfInBounds i v) e fr) := by
  simp [World.setCell, Array.getElem?_modify, hg]
theorem setCell_other' {w : World} {g i k : Nat} (v : Value) (hk : k ≠ g) : (w.setCell ⟨g, i, none⟩ v).heap[k]? = w.heap[k]? := by
  simp [World.setCell, Array.getElem?_modify, Ne.symm hk]

theorem take_set (l : List Value) (n : Nat) (x : Value) (h : n < l.length) : (l.set n x).take (n + 1) = l.take n ++ [x] := by
  apply List.ext_getElem?
  intro j
  rw [List.getElem?_take, List.getElem?_set, List.getElem?_append]
  have hl : (l.take n).length = n := by simp; omega
  rw [hl]
  by_cases h1 : j < n
  · rw [if_pos (by omega), if_neg (by omega), if_pos h1, List.getElem?_take, if_pos h1]
  · rw [if_neg h1]
    by_cases h2 : j = n
    · subst h2; simp [h]
    · rw [if_neg (by omega), List.getElem?_eq_none (by simp; omega)]

section
variable {P : Program}
theorem run_append_f (w : World) (base : Nat) (t ty e : TypeId) (i : TypeInfo) (z : Value) (ht : P.underlying t = some (.slice e)) (hi : P.info? e = some i) (hz : i.zero = some z) (hsize : i.size = 1) (hby : i.bytes = 1) (hzs : z.cells.size = 1)
    (v : Value) (n : Nat) (xs : List Value) (hown : ownsF w base e v n xs) (ad : Addr) (c : Nat) (x : Value) (hnew : w.cell? ad = some x) (h1 : x.oneCell' = true) (hn : n + 1 ≤ 140737488355328) (hbase : base ≤ w.heap.size) :
    ∃ v' w', (Builtin.append_ #[t, t] ty #[v, .slice (some ad) 1 c]).run P w = .ok v' w' ∧ ownsF w' base e v' (n + 1) (xs ++ [x]) ∧ w.grownBy w' v.ownBlock := by
  have hown0 := hown
  obtain ⟨hl, g, cap, cur, fr, rfl, hbg, hg, hnc, hcm, hcs, hfr, htake⟩ := hown
  have hnl : ([x] : List Value).length = 1 * i.size := by rw [hsize]; rfl
  have hnews : ∀ j u, [x][j]? = some u → w.cell? (ad.add j) = some u := by
    intro j u hu
    cases j with
    | zero =>
      simp at hu; subst hu
      have : ad.add 0 = ad := by unfold Addr.add; split <;> simp_all
      rw [this]; exact hnew
    | succ j => simp at hu
  by_cases hroom : n + 1 ≤ cap
  · have hcell : (w.cell? ⟨g, n, none⟩).isSome = true := by simp [World.cell?, hg]; omega
    have hr := run_append_room_cells (P := P) w t ty e i ht hi g 0 n cap ad 1 c [x] hnl hnews (by simpa using h1) hroom
      (fun j hj => by
        have : j = 0 := by simpa using hj
        subst this
        rw [hsize, Nat.zero_add, Nat.mul_one, Nat.add_zero]; exact hcell)
      (fun j hj => by
        have : j = 0 := by simpa using hj
        subst this
        rw [hsize, Nat.zero_add, Nat.mul_one, Nat.add_zero]; exact frozen_out hg hfr n (by omega))
    rw [hsize, Nat.zero_add, Nat.mul_one] at hr
    have hw : w.setCells g n [x] = w.setCell ⟨g, n, none⟩ x := rfl
    rw [hw] at hr
    refine ⟨_, _, hr, ⟨by simp [hl], g, cap, cur.setIfInBounds n x, fr, rfl, hbg, setCell_cells x hg, hroom, hcm, by simp [hcs], hfr, ?_⟩, ⟨rfl, rfl, rfl, by simp [World.setCell], fun k _ hk => setCell_other' x (fun e => hk (by simp [Value.ownBlock, e]))⟩⟩
    rw [Array.toList_setIfInBounds, take_set _ _ _ (by simp; omega), htake]
  · have holds : ∀ j u, xs[j]? = some u → w.cell? ((⟨g, 0, none⟩ : Addr).add j) = some u := fun j u hu => by
      have hj : j < n := by rw [← hl]; exact (List.getElem?_eq_some_iff.1 hu).1
      rw [Addr.add_lit, Nat.zero_add, hown0.cell j hj, hu]
    have hr := run_append_grow (P := P) w t ty e i z ht hi hz ⟨g, 0, none⟩ n cap xs (by rw [hsize, hl, Nat.mul_one]) holds ad 1 c [x] hnl hnews (by omega) (by omega) (by
      have := growslice_fits (need := n + 1) (old := cap) (bytes := i.bytes) (by omega) (by rw [hby]; omega)
      exact this)
    have hge := grownCap_ge w (n + 1) cap e
    have hcm' : grownCap w (n + 1) cap e ≤ maxLen := grownCap_le_maxLen w (n + 1) cap e (by unfold maxLen; omega)
    refine ⟨_, _, hr, ⟨by simp [hl], w.heap.size, _, _, (0, 0), rfl, hbase, heap_alloc_new w.drew _, hge, hcm', ?_, .inl rfl, ?_⟩, ⟨rfl, rfl, rfl, by simp, fun k hk _ => (MapKept.heap_alloc w.drew _).2 k hk⟩⟩
    · simp only [Array.size_append, List.size_toArray, size_zeroCells, hzs, hl, List.length_cons, List.length_nil]
      omega
    · have h7 : (xs ++ [x]).length = n + 1 := by simp [hl]
      simp only [Array.toList_append]
      rw [← h7]
      exact List.take_left
theorem wpList_append_f (w : World) {ops : Array Oper} {rest : List Oper} {o : Oper} {a : Act} {Q : Exit → Act → World → Prop} (hgd : o.guard = none) (s x : Operand) (t : TypeId)
    (ho : o.op = .call { callee := .builtin .append, args := #[s, x], argTypes := #[t, t] })
    (base : Nat) (e : TypeId) (i : TypeInfo) (z : Value) (ht : P.underlying t = some (.slice e)) (hi : P.info? e = some i) (hz : i.zero = some z) (hsize : i.size = 1) (hby : i.bytes = 1) (hzs : z.cells.size = 1)
    (v : Value) (n : Nat) (xs : List Value) (hs : a.eval s = v) (hown : ownsF w base e v n xs)
    (ad : Addr) (c : Nat) (u : Value) (hx : a.eval x = .slice (some ad) 1 c) (hnew : w.cell? ad = some u) (h1 : u.oneCell' = true) (hn : n + 1 ≤ 140737488355328) (hbase : base ≤ w.heap.size)
    (h : ∀ v' w', ownsF w' base e v' (n + 1) (xs ++ [u]) → w.grownBy w' v.ownBlock → wpList P ops Q rest (a.put o.dst v') w') : wpList P ops Q (o :: rest) a w := by
  refine wpList_plain hgd fun K hK => ?_
  obtain ⟨v', w', hr, h2, h3⟩ := run_append_f (P := P) w base t o.type e i z ht hi hz hsize hby hzs v n xs hown ad c u hnew h1 hn hbase
  unfold Oper.wp
  simp [execOp, ho, resolve, invoke, builtin, hs, hx, hr, Result.andThen]
  exact hK _ _ (h v' w' h2 h3)

/-- A string turned into bytes owns such a row. -/
theorem ownsF_bytes (w : World) (base : Nat) (e : TypeId) (s : ByteArray) (hb : base ≤ w.heap.size) (hs : s.size ≤ maxLen) :
    ownsF (Lib.bytesWorld w e s) base e (.slice (some ⟨w.heap.size, 0, none⟩) s.size (grownCap w s.size 0 e)) s.size (s.data.toList.map fun b => Value.int .u8 b.toNat) := by
  have hge := grownCap_ge w s.size 0 e
  have hd : s.data.size = s.size := rfl
  have hsz : (Lib.bytesCells w e s).size = grownCap w s.size 0 e := by
    simp only [Lib.bytesCells, Array.size_append, Array.size_map, Array.size_replicate, hd]
    omega
  refine ⟨by simp, w.heap.size, _, _, _, rfl, hb, Lib.bytesWorld_at_new w e s, hge, grownCap_le_maxLen w _ _ _ hs, hsz, .inr (by rw [hsz]; exact Nat.le_refl _), ?_⟩
  simp only [Lib.bytesCells, Array.toList_append, Array.toList_map]
  have h7 : (s.data.toList.map fun b => Value.int .u8 b.toNat).length = s.size := by simp
  rw [← h7]
  exact List.take_left
theorem below_bytes (w : World) (e : TypeId) (s : ByteArray) : Below w.heap.size w (Lib.bytesWorld w e s) :=
  ⟨rfl, rfl, rfl, by rw [Lib.bytesWorld_size]; omega, fun j hj => Lib.bytesWorld_at_old w e s j hj⟩
theorem wpList_conv_f {w : World} {ops : Array Oper} {rest : List Oper} {o : Oper} {a : Act} {Q : Exit → Act → World → Prop} (hgd : o.guard = none) (x : Operand) (src dst e : TypeId) (ho : o.op = .convert src dst x)
    (s : ByteArray) (hx : a.eval x = .string s) {u : TypeDesc} (hs : P.underlying src = some u) (hd : P.underlying dst = some (.slice e)) (he : P.underlying e = some (.int .u8))
    (h : wpList P ops Q rest (a.put o.dst (.slice (some ⟨w.heap.size, 0, none⟩) s.size (grownCap w s.size 0 e))) (Lib.bytesWorld w e s)) : wpList P ops Q (o :: rest) a w := by
  refine wpList_plain hgd fun K hK => ?_
  unfold Oper.wp
  simp [execOp, ho, hx, Lib.run_convert_string_bytes w src dst e s hs hd he]
  exact hK _ _ h
theorem wpList_conv_own {w : World} {ops : Array Oper} {rest : List Oper} {o : Oper} {a : Act} {Q : Exit → Act → World → Prop} (hgd : o.guard = none) (x : Operand) (src dst e : TypeId) (ho : o.op = .convert src dst x)
    (s : ByteArray) (hx : a.eval x = .string s) {u : TypeDesc} (hs : P.underlying src = some u) (hd : P.underlying dst = some (.slice e)) (he : P.underlying e = some (.int .u8)) (base n : Nat) (hn : s.size = n) (hb : base ≤ w.heap.size) (hm : n ≤ maxLen)
    (h : ∀ g cap w', ownsF w' base e (.slice (some ⟨g, 0, none⟩) n cap) n (s.data.toList.map fun b => Value.int .u8 b.toNat) → Below w.heap.size w w' → wpList P ops Q rest (a.put o.dst (.slice (some ⟨g, 0, none⟩) n cap)) w') : wpList P ops Q (o :: rest) a w := by
  subst hn
  exact wpList_conv_f hgd x src dst e ho s hx hs hd he (h _ _ _ (ownsF_bytes w base e s hb hm) (below_bytes w e s))
theorem ownsF.put {w : World} {base : Nat} {e : TypeId} {n g cap : Nat} {xs : List Value} (h : ownsF w base e (.slice (some ⟨g, 0, none⟩) n cap) n xs) (i : Nat) (x : Value) : ownsF (w.setCell ⟨g, i, none⟩ x) base e (.slice (some ⟨g, 0, none⟩) n cap) n (xs.set i x) := by
  obtain ⟨h1, g', cap', cur, fr, e1, hb, hg, h2, h3, h4, h5, h6⟩ := h
  simp only [Value.slice.injEq, Option.some.injEq, Addr.mk.injEq] at e1
  obtain ⟨⟨rfl, _, _⟩, _, rfl⟩ := e1
  refine ⟨by simp [h1], g, cap, cur.setIfInBounds i x, fr, rfl, hb, setCell_cells x hg, h2, h3, by simp [h4], h5, ?_⟩
  rw [Array.toList_setIfInBounds, List.take_set, h6]
theorem ownsF.free {w : World} {base : Nat} {e : TypeId} {n g cap : Nat} {xs : List Value} (h : ownsF w base e (.slice (some ⟨g, 0, none⟩) n cap) n xs) (j : Nat) (hj : j < n) : w.frozen? ⟨g, j, none⟩ = false := by
  obtain ⟨h1, g', cap', cur, fr, e1, hb, hg, h2, h3, h4, h5, h6⟩ := h
  simp only [Value.slice.injEq, Option.some.injEq, Addr.mk.injEq] at e1
  obtain ⟨⟨rfl, _, _⟩, _, rfl⟩ := e1
  exact frozen_out hg h5 j (by omega)
theorem ownsF.ge {w : World} {base : Nat} {e : TypeId} {n g cap : Nat} {xs : List Value} (h : ownsF w base e (.slice (some ⟨g, 0, none⟩) n cap) n xs) : base ≤ g := by
  obtain ⟨h1, g', cap', cur, fr, e1, hb, _⟩ := h
  simp only [Value.slice.injEq, Option.some.injEq, Addr.mk.injEq] at e1
  obtain ⟨⟨rfl, _, _⟩, _⟩ := e1
  exact hb
/-- A string out of a part of such a row. -/
theorem ownsF_conv (w : World) (base : Nat) (src dst e : TypeId) (hs : P.underlying src = some (.slice e)) (he : P.underlying e = some (.int .u8)) (hd : P.underlying dst = some .string)
    {g n cap : Nat} {l : List UInt8} (h : ownsF w base e (.slice (some ⟨g, 0, none⟩) n cap) n (l.map fun b => Value.int .u8 (b.toNat : Int))) (a m c2 : Nat) (ha : a + m ≤ n) :
    (convert src dst (.slice (some ⟨g, a, none⟩) m c2)).run P w = .ok (.string (bs ((l.drop a).take m))) w := by
  have hl : l.length = n := by simpa using h.1
  refine run_bytes_to_string w src dst e hs he hd g a m c2 _ (by simp; omega) (fun j hj => ?_)
  have hj' : j < m := by simp at hj; omega
  rw [h.cell (a + j) (by omega)]
  simp [show a + j < l.length by omega]
end
end MS

/-
  mailsackref06: digits in slices; add.
-/
namespace Go.Proofs.Ytkfacnegfkgcgaa
open Go.RowKit MS

def evs (l : List Nat) : List Value := l.map (fun n => .int .i64 ((n : Nat) : Int))
theorem evs_app (l : List Nat) (n : Nat) : evs (l ++ [n]) = evs l ++ [.int .i64 ((n : Nat) : Int)] := by simp [evs]
theorem length_evs (l : List Nat) : (evs l).length = l.length := by simp [evs]
/-- A slice of n digits of u. -/
def ES (w : World) (base : Nat) (v : Value) (n u : Nat) : Prop := w.ownsRow base 3 1 v n (evs (dgn 256 n u)) ∧ u < 256 ^ n ∧ 0 < n ∧ n ≤ 100
theorem ES.on {w w' : World} {base n u : Nat} {v : Value} (h : ES w base v n u) (hb : Below w.heap.size w w') : ES w' base v n u := ⟨ownsRow_on h.1 hb, h.2⟩
theorem ES.form {w : World} {base n u : Nat} {v : Value} (h : ES w base v n u) : ∃ g cap, v = .slice (some ⟨g, 0, none⟩) n cap ∧ base ≤ g ∧ g < w.heap.size := h.1.form h.2.2.1
theorem ES.base {w : World} {base base' n u : Nat} {v : Value} (h : ES w base v n u) (hb : base' ≤ base) : ES w base' v n u := by
  refine ⟨⟨h.1.1, ?_⟩, h.2⟩
  rcases h.1.2 with h1 | ⟨g, cap, cur, h1, h2, h3⟩
  · exact .inl h1
  · exact .inr ⟨g, cap, cur, h1, Nat.le_trans hb h2, h3⟩
theorem ES.cell {w : World} {base g cap n u : Nat} (h : ES w base (.slice (some ⟨g, 0, none⟩) n cap) n u) (i : Nat) (hi : i < n) : w.cell? ⟨g, i, none⟩ = some (.int .i64 ((u / 256 ^ i % 256 : Nat) : Int)) := by
  rw [h.1.cellAt i (by omega), evs, List.getElem?_map, dg_get _ _ _ _ hi]
  rfl
theorem ES.cells {w : World} {base g cap n u : Nat} (h : ES w base (.slice (some ⟨g, 0, none⟩) n cap) n u) : ∀ w', Below w.heap.size w w' → ∀ i, i < n → w'.cell? ⟨g, i, none⟩ = some (.int .i64 ((u / 256 ^ i % 256 : Nat) : Int)) :=
  fun _ hb i hi => (h.on hb).cell i hi

theorem cry_topE (u v k : Nat) (hu : u < 256 ^ k) (hv : v < 256 ^ k) : cry 256 u v (k + 1) = 0 := by
  unfold cry
  rw [Nat.pow_succ]
  generalize 256 ^ k = X at *
  rw [Nat.mod_eq_of_lt (by omega), Nat.mod_eq_of_lt (by omega), Nat.div_eq_of_lt (by omega)]
/-- What add has gathered. -/
structure EAd (w0 : World) (u v : Nat) (x : Value) (j : Nat) (w : World) : Prop where
  own : w.ownsRow w0.heap.size 3 1 x j (evs (dgn 256 j (u + v)))
  bel : Below w0.heap.size w0 w

set_option maxRecDepth 1000000 in
set_option maxHeartbeats 2000000 in
theorem padd_any (n m u v : Nat) (va vb : Value) (ba bb : Nat) (w : World) (ha : ES w ba va n u) (hb : ES w bb vb m v) :
    Calls Try.prog 47 #[va, vb] w fun e w' => Below w.heap.size w w' ∧ ∃ r k, e = .returned r ∧ n ≤ k ∧ m ≤ k ∧ k ≤ max n m + 1 ∧ u + v < 256 ^ k ∧ w'.ownsRow w.heap.size 3 1 r k (evs (dgn 256 k (u + v))) := by
  obtain ⟨i0, hi, hz0, hz1, hz2⟩ : ∃ i, Try.prog.info? 3 = some i ∧ i.zero = some (.int .i64 0) ∧ i.size = 1 ∧ i.bytes = 8 := ⟨_, rfl, rfl, rfl, rfl⟩
  obtain ⟨ga, ca, rfl, -, -⟩ := ha.form
  obtain ⟨gb, cb, rfl, -, -⟩ := hb.form
  have HA := Lib.hid ha.cells
  have HB := Lib.hid hb.cells
  have HN := Lib.hid ha.2
  have HM := Lib.hid hb.2
  have hown0 : w.ownsRow w.heap.size 3 1 (.slice none 0 0) 0 (evs (dgn 256 0 (u + v))) := World.ownsRow_nil _ _ _ _
  clear ha hb
  go_enter Try.func47, Try.ntmps47
  go_wp2_with fail
  go_loopw [5, 6, 7] (fun x c i wr => ∃ j : Nat, j ≤ max n m + 1 ∧ i = .int .i64 j ∧ c = .int .i64 ((cry 256 u v j : Nat) : Int) ∧ EAd w u v x j wr) (fun _ _ i _ => 300 - (intOf i).toNat)
  case atStart => exact ⟨0, by omega, rfl, by rw [cry_zero]; rfl, hown0, Below.refl _ _⟩
  case round =>
    obtain ⟨j, hj, rfl, rfl, hr⟩ := hrel
    have HOWN := Lib.hid hr.own
    have HBL := Lib.hid hr.bel
    have HJ := Lib.hid hj
    clear hr hown0 hj
    -- ROUND
    have HCZ := Lib.hid (show j = max n m + 1 → cry 256 u v j = 0 from fun e => by
      rw [e]
      exact cry_topE _ _ _ (Nat.lt_of_lt_of_le HN.out.1 (Nat.pow_le_pow_right (by decide) (Nat.le_max_left n m))) (Nat.lt_of_lt_of_le HM.out.1 (Nat.pow_le_pow_right (by decide) (Nat.le_max_right n m))))
    have hc1 := cry_le 256 u v j (by decide)
    have hD := add_digit 256 u v j (by decide)
    have hC := add_carry 256 u v j (by decide)
    have hx := dig_lt 256 (by decide) u j
    have hy := dig_lt 256 (by decide) v j
    have hx0 := Lib.hid (show n ≤ j → u / 256 ^ j % 256 = 0 from fun h => dig_zero HN.out.1 (by decide) h)
    have hy0 := Lib.hid (show m ≤ j → v / 256 ^ j % 256 = 0 from fun h => dig_zero HM.out.1 (by decide) h)
    have hend := Lib.hid (show n ≤ j → m ≤ j → cry 256 u v j = 0 → u + v < 256 ^ j from fun h1 h2 h3 => add_ends HN.out.1 HM.out.1 (by decide) h1 h2 h3)
    have hS := dg_succ 256 j (u + v)
    rw [hD] at hS
    have CA := Lib.hid (fun h => HA.out wr HBL.out j h)
    have CB := Lib.hid (fun h => HB.out wr HBL.out j h)
    generalize u / 256 ^ j % 256 = x at *
    generalize v / 256 ^ j % 256 = y at *
    generalize cry 256 u v j = c at *
    have HNEXT := Lib.hid (show ∀ (x1 : Value) (w1 : World), w1.ownsRow w.heap.size 3 1 x1 (j + 1) (evs (dgn 256 j (u + v)) ++ [.int .i64 (((c + x + y : Nat) : Int) % 256)]) → w1.ownsRow w.heap.size 3 1 x1 (j + 1) (evs (dgn 256 (j + 1) (u + v))) from by
      intro x1 w1 h
      rw [hS, evs_app, Int.natCast_emod]
      exact h)
    have HC := Lib.hid hC
    clear hD hC hS
    have jn : (0 : Int) ≤ j := Int.natCast_nonneg j
    have jb : (j : Int) ≤ 200 := by have := HJ.out; have := HN.out.2.2; have := HM.out.2.2; omega
    have HML := Lib.hid (show j + 1 ≤ maxLen by have := HJ.out; have := HN.out.2.2; have := HM.out.2.2; unfold maxLen; omega)
    have HMB := Lib.hid (show (j + 1) * 8 ≤ 140737488355328 by have := HJ.out; have := HN.out.2.2; have := HM.out.2.2; omega)
    by_cases h1 : j < n
    · have j1 : (j : Int) < n := by omega
      have HLT := Lib.hid h1
      by_cases h2 : j < m
      · have j2 : (j : Int) < m := by omega
        have HGO := Lib.hid (show j < max n m + 1 by have := HLT.out; omega)
        have ca := CA.out (by omega)
        have cb := CB.out (by omega)
        obtain ⟨S, hSS⟩ : ∃ S : Nat, S = c + x + y := ⟨_, rfl⟩
        rw [← hSS] at HNEXT HC
        have qs : (c : Int) + (x : Int) + (y : Int) = (S : Int) := by omega
        have s1 : (S : Int) < 200000 := by omega
        have s0 : (0 : Int) ≤ (S : Int) := by omega
        have c0 : (0 : Int) ≤ (c : Int) := by omega
        have c1 : (c : Int) ≤ 1 := by omega
        have b1 : (x : Int) < 256 := by omega
        have b0 : (0 : Int) ≤ (x : Int) := by omega
        have d1 : (y : Int) < 256 := by omega
        have d0 : (0 : Int) ≤ (y : Int) := by omega
        clear hSS hx hy hc1
        have HAL := Lib.hid (HOWN.out.alloc (.cells #[.int .i64 ((S : Int) % 256)] 3 (0, 0)))
        have hs0 : _ ≤ wr.heap.size := HBL.out.size
        go_wp2_with (at_builtin; refine wpList_append_own _ rfl (.tmp 46) (.tmp 49) 67 rfl _ 3 i0 (.int .i64 0) 1 8 Try.underlying67 hi hz0 hz1 hz2 rfl (by decide) _ _ _ rfl HAL.out ⟨wr.heap.size, 0, none⟩ 1 1 [.int .i64 ((S : Int) % 256)] rfl rfl (one_cell wr _ _) (one_one _ rfl) HML.out HMB.out (le_alloc hs0 _) ?_)
        intro v1 w1 h1 h2 h3
        have HB1 := Lib.hid (below_app HBL.out _ _ _ _ _ HOWN.out h2)
        have HO1 := Lib.hid (HNEXT.out _ _ h1)
        clear h1 h2 h3 hs0
        go_wp2_with fail
        go_roundw
        case rel => exact ⟨j + 1, by have := HGO.out; omega, by go_num, by rw [HC.out]; go_num, HO1.out, HB1.out⟩
        case measure => simp [intOf]; have := HGO.out; have := HN.out.2.2; have := HM.out.2.2; omega
      · have j2 : ¬ (j : Int) < m := by omega
        have HGO := Lib.hid (show j < max n m + 1 by have := HLT.out; omega)
        have y0 : y = 0 := hy0.out (by omega)
        subst y0
        have ca := CA.out (by omega)
        obtain ⟨S, hSS⟩ : ∃ S : Nat, S = c + x + 0 := ⟨_, rfl⟩
        rw [← hSS] at HNEXT HC
        have qs : (c : Int) + (x : Int) = (S : Int) := by omega
        have s1 : (S : Int) < 200000 := by omega
        have s0 : (0 : Int) ≤ (S : Int) := by omega
        have c0 : (0 : Int) ≤ (c : Int) := by omega
        have c1 : (c : Int) ≤ 1 := by omega
        have b1 : (x : Int) < 256 := by omega
        have b0 : (0 : Int) ≤ (x : Int) := by omega
        clear hSS hx hy hc1
        have HAL := Lib.hid (HOWN.out.alloc (.cells #[.int .i64 ((S : Int) % 256)] 3 (0, 0)))
        have hs0 : _ ≤ wr.heap.size := HBL.out.size
        go_wp2_with (at_builtin; refine wpList_append_own _ rfl (.tmp 46) (.tmp 49) 67 rfl _ 3 i0 (.int .i64 0) 1 8 Try.underlying67 hi hz0 hz1 hz2 rfl (by decide) _ _ _ rfl HAL.out ⟨wr.heap.size, 0, none⟩ 1 1 [.int .i64 ((S : Int) % 256)] rfl rfl (one_cell wr _ _) (one_one _ rfl) HML.out HMB.out (le_alloc hs0 _) ?_)
        intro v1 w1 h1 h2 h3
        have HB1 := Lib.hid (below_app HBL.out _ _ _ _ _ HOWN.out h2)
        have HO1 := Lib.hid (HNEXT.out _ _ h1)
        clear h1 h2 h3 hs0
        go_wp2_with fail
        go_roundw
        case rel => exact ⟨j + 1, by have := HGO.out; omega, by go_num, by rw [HC.out]; go_num, HO1.out, HB1.out⟩
        case measure => simp [intOf]; have := HGO.out; have := HN.out.2.2; have := HM.out.2.2; omega
    · have j1 : ¬ (j : Int) < n := by omega
      by_cases h2 : j < m
      · have j2 : (j : Int) < m := by omega
        have HLT := Lib.hid h2
        have HGO := Lib.hid (show j < max n m + 1 by have := HLT.out; omega)
        have x0 : x = 0 := hx0.out (by omega)
        subst x0
        have cb := CB.out (by omega)
        obtain ⟨S, hSS⟩ : ∃ S : Nat, S = c + 0 + y := ⟨_, rfl⟩
        rw [← hSS] at HNEXT HC
        have qs : (c : Int) + (y : Int) = (S : Int) := by omega
        have s1 : (S : Int) < 200000 := by omega
        have s0 : (0 : Int) ≤ (S : Int) := by omega
        have c0 : (0 : Int) ≤ (c : Int) := by omega
        have c1 : (c : Int) ≤ 1 := by omega
        have d1 : (y : Int) < 256 := by omega
        have d0 : (0 : Int) ≤ (y : Int) := by omega
        clear hSS hx hy hc1
        have HAL := Lib.hid (HOWN.out.alloc (.cells #[.int .i64 ((S : Int) % 256)] 3 (0, 0)))
        have hs0 : _ ≤ wr.heap.size := HBL.out.size
        go_wp2_with (at_builtin; refine wpList_append_own _ rfl (.tmp 46) (.tmp 49) 67 rfl _ 3 i0 (.int .i64 0) 1 8 Try.underlying67 hi hz0 hz1 hz2 rfl (by decide) _ _ _ rfl HAL.out ⟨wr.heap.size, 0, none⟩ 1 1 [.int .i64 ((S : Int) % 256)] rfl rfl (one_cell wr _ _) (one_one _ rfl) HML.out HMB.out (le_alloc hs0 _) ?_)
        intro v1 w1 h1 h2 h3
        have HB1 := Lib.hid (below_app HBL.out _ _ _ _ _ HOWN.out h2)
        have HO1 := Lib.hid (HNEXT.out _ _ h1)
        clear h1 h2 h3 hs0
        go_wp2_with fail
        go_roundw
        case rel => exact ⟨j + 1, by have := HGO.out; omega, by go_num, by rw [HC.out]; go_num, HO1.out, HB1.out⟩
        case measure => simp [intOf]; have := HGO.out; have := HN.out.2.2; have := HM.out.2.2; omega
      · have j2 : ¬ (j : Int) < m := by omega
        by_cases h3 : c = 0
        · subst h3
          have he := Lib.hid (hend.out (by omega) (by omega) rfl)
          clear CA CB HNEXT HC
          go_wp2_with fail
          go_ret
          exact ⟨HBL.out, _, rfl, j, by omega, by omega, HJ.out, he.out, HOWN.out⟩
        · obtain rfl : c = 1 := by omega
          have HGO := Lib.hid (show j < max n m + 1 from by
            refine Nat.lt_of_le_of_ne HJ.out fun e => h3 (HCZ.out e))
          have x0 : x = 0 := hx0.out (by omega)
          subst x0
          have y0 : y = 0 := hy0.out (by omega)
          subst y0
          clear h3 hx hy hc1 hend HCZ CA CB hx0 hy0 HA HB
          rw [show ((1 : Nat) : Int) = 1 from rfl]
          have HAL := Lib.hid (HOWN.out.alloc (.cells #[.int .i64 1] 3 (0, 0)))
          have hs0 : _ ≤ wr.heap.size := HBL.out.size
          go_wp2_with (at_builtin; refine wpList_append_own _ rfl (.tmp 46) (.tmp 49) 67 rfl _ 3 i0 (.int .i64 0) 1 8 Try.underlying67 hi hz0 hz1 hz2 rfl (by decide) _ _ _ rfl HAL.out ⟨wr.heap.size, 0, none⟩ 1 1 [.int .i64 1] rfl rfl (one_cell wr _ _) (one_one _ rfl) HML.out HMB.out (le_alloc hs0 _) ?_)
          intro v1 w1 h1 h2 h3
          have HB1 := Lib.hid (below_app HBL.out _ _ _ _ _ HOWN.out h2)
          have HO1 := Lib.hid (HNEXT.out _ _ h1)
          clear h1 h2 h3 hs0
          go_wp2_with fail
          go_roundw
          case rel => exact ⟨j + 1, by have := HGO.out; omega, by go_num, by rw [HC.out]; rfl, HO1.out, HB1.out⟩
          case measure => simp [intOf]; have := HGO.out; have := HN.out.2.2; have := HM.out.2.2; omega
end Go.Proofs.Ytkfacnegfkgcgaa

/-
  mailsackref06.times: the walk.
-/
namespace Go.Proofs.Ytkfacnegfkgcgaa
open Go.RowKit MS

/-- A row of digits of the call's own. -/
structure ETt (g N : Nat) (w0 : World) (l : List Nat) (w : World) : Prop where
  own : w.ownsRow w0.heap.size 3 1 (.slice (some ⟨g, 0, none⟩) N N) N (evs l)
  bel : Below w0.heap.size w0 w
theorem ETt.drewN {g N : Nat} {w0 w : World} {l : List Nat} (h : ETt g N w0 l w) (k : Nat) : ETt g N w0 l (w.drewN k) := ⟨h.own, below_drewN h.bel k⟩
theorem ETt.cell {g N : Nat} {w0 w : World} {l : List Nat} (h : ETt g N w0 l w) (j x : Nat) (hj : j < N) (hx : l[j]? = some x) : w.cell? ⟨g, j, none⟩ = some (.int .i64 (x : Int)) := by
  rw [h.own.cellAt j (by omega), evs, List.getElem?_map, hx]
  rfl
theorem ETt.free {g N : Nat} {w0 w : World} {l : List Nat} (h : ETt g N w0 l w) (j : Nat) : w.frozen? ⟨g, j, none⟩ = false := h.own.frozenAt j
theorem ETt.put {g N : Nat} {w0 w : World} {l : List Nat} (h : ETt g N w0 l w) (j x : Nat) (v : Value) (hv : v = .int .i64 (x : Int)) : ETt g N w0 (l.set j x) (w.setCell ⟨g, j, none⟩ v) := by
  subst hv
  refine ⟨?_, h.bel.setCell ((own_cap h.own).2.2.1) _⟩
  have := (h.own.stored j (.int .i64 (x : Int))).1
  rwa [show (evs l).set j (.int .i64 (x : Int)) = evs (l.set j x) by simp [evs, List.map_set]] at this

theorem made_zerosE (N : Nat) : (madeCells #[.int .i64 0] N).toList = evs (dgn 256 N 0) := by
  apply List.ext_getElem?
  intro j
  rw [dg_zero, evs, List.getElem?_map, List.getElem?_replicate]
  by_cases h : j < N
  · simp [madeCells, h, Nat.mod_one]
  · simp [madeCells, h]
theorem natmodE (S : Nat) : Value.int .i64 ((S : Int) % 256) = .int .i64 ((S % 256 : Nat) : Int) := rfl

set_option maxRecDepth 1000000 in
set_option maxHeartbeats 2000000 in
theorem ptimes_any (n m u v : Nat) (va vb : Value) (ba bb : Nat) (w : World) (ha : ES w ba va n u) (hb : ES w bb vb m v) :
    Calls Try.prog 46 #[va, vb] w fun e w' => Below w.heap.size w w' ∧ ∃ r, e = .returned r ∧ w'.ownsRow w.heap.size 3 1 r (n + m) (evs (dgn 256 (n + m) (u * v))) := by
  obtain ⟨i0, hi, hz0, hz1, hz2⟩ : ∃ i, Try.prog.info? 3 = some i ∧ i.zero = some (.int .i64 0) ∧ i.size = 1 ∧ i.bytes = 8 := ⟨_, rfl, rfl, rfl, rfl⟩
  obtain ⟨ga, ca, rfl, -, -⟩ := ha.form
  obtain ⟨gb, cb, rfl, -, -⟩ := hb.form
  have HA := Lib.hid ha.cells
  have HB := Lib.hid hb.cells
  have HN := Lib.hid ha.2
  have HM := Lib.hid hb.2
  have hn1 : (n : Int) ≤ 100 := by have := HN.out.2.2; omega
  have hm1 : (m : Int) ≤ 100 := by have := HM.out.2.2; omega
  have hn0 : (0 : Int) ≤ n := by omega
  have hm0 : (0 : Int) ≤ m := by omega
  have hy2 : i0.bytes * (n + m) ≤ 281474976710656 := by rw [hz2]; omega
  have hy3 : n + m ≤ maxLen := by unfold maxLen; omega
  clear ha hb
  go_enter Try.func46, Try.ntmps46
  go_wp2_with (at_make; refine wpList_make_full w rfl (.tmp 14) (.tmp 14) 67 rfl w.heap.size 3 i0 (.int .i64 0) 1 Try.underlying67 hi hz0 hz1 .i64 .i64 ((n : Int) + (m : Int)) ((n : Int) + (m : Int)) (n + m) rfl rfl (Int.natCast_add n m).symm (Int.natCast_add n m).symm hy2 hy3 (Nat.le_refl _) ?_)
  intro w1 h1 h2
  rw [made_zerosE] at h1
  have T0 := Lib.hid (show ETt w.heap.size (n + m) w (dgn 256 (n + m) (u % 256 ^ 0 * v)) w1 from ⟨by rw [Nat.pow_zero, Nat.mod_one, Nat.zero_mul]; exact h1, (Below.refl w.heap.size w).grown h2 (Nat.le_refl _) (fun k hk => by cases hk)⟩)
  have HNM := Lib.hid (show ∃ N, N = n + m from ⟨_, rfl⟩)
  obtain ⟨N, hNM⟩ := HNM.out
  rw [← hNM] at T0
  rw [← hNM]
  have HG := Lib.hid hNM
  generalize hg : w.heap.size = g at T0 ⊢
  have HGG := Lib.hid hg
  clear h1 h2 hy2 hy3 HNM hNM hg
  have nN : (N : Int) ≤ 200 := by have := HG.out; omega
  go_wp2_with fail
  go_loopw [6] (fun i wr => ∃ j : Nat, j ≤ n ∧ i = .int .i64 j ∧ ETt g N w (dgn 256 N (u % 256 ^ j * v)) wr) (fun i _ => 300 - (intOf i).toNat)
  case atStart => exact ⟨0, by omega, rfl, T0.out⟩
  case round =>
    obtain ⟨j, hj, rfl, hr⟩ := hrel
    have R1 := Lib.hid hr
    have HJ := Lib.hid hj
    clear hr hj T0
    by_cases hlt : j < n
    · have j1 : (j : Int) < n := by omega
      have j0 : (0 : Int) ≤ j := by omega
      have HLT := Lib.hid hlt
      have hx := dig_lt 256 (by decide) u j
      have HX := Lib.hid (fun wr h => HA.out wr h j hlt)
      have hS0 := trow_zero 256 N u v j (by have := HG.out; omega)
      have HC0 := Lib.hid (tsum_c0 256 u v j (by decide))
      have R2 := R1.out
      rw [← hS0] at R2
      have R3 := Lib.hid R2
      clear R1 R2 hS0 hlt
      go_wp2_with fail
      obtain ⟨wo, rfl⟩ : ∃ wo : World, wo = wr := ⟨_, rfl⟩
      go_loopw [7, 8] (fun c i wr => ∃ k : Nat, k ≤ m ∧ i = .int .i64 k ∧ c = .int .i64 ((tsum 256 u v j k / 256 ^ (j + k) : Nat) : Int) ∧ ETt g N w (trow 256 N u v j k) wr) (fun _ i _ => 300 - (intOf i).toNat)
      case atStart => exact ⟨0, by omega, rfl, by rw [HC0.out]; rfl, R3.out⟩
      case round =>
        obtain ⟨k, hk, rfl, rfl, hr⟩ := hrel
        have R4 := Lib.hid hr
        have HK := Lib.hid hk
        have hc := tsum_c_lt 256 u v j k (by decide)
        have hL := trow_get 256 N u v j k (j + k) (Nat.le_refl _) (by have := HG.out; have := HLT.out; have := HM.out.2.1; omega)
        clear hr hk R3
        by_cases hlt : k < m
        · have k1 : (k : Int) < m := by omega
          have k0 : (0 : Int) ≤ k := by omega
          have HLK := Lib.hid hlt
          have hpN : j + k < N := by have := HG.out; have := HLT.out; omega
          have hy := dig_lt 256 (by decide) v k
          have cx := HX.out wr R4.out.bel
          have cy := HB.out wr R4.out.bel k hlt
          have hd := tsum_digit 256 u v j k (by decide)
          have hcc := tsum_carry 256 u v j k (by decide)
          have hl := dig_lt 256 (by decide) (u % 256 ^ j * v) (j + k)
          have hset := trow_set 256 N u v j k hpN
          rw [hd] at hset
          have cl := R4.out.cell (j + k) _ hpN hL
          have fl := R4.out.free (j + k)
          have HST := Lib.hid (show ∀ kk : Nat, ∀ x : Value, x = .int .i64 (((tsum 256 u v j k / 256 ^ (j + k) + (u % 256 ^ j * v / 256 ^ (j + k) % 256 + u / 256 ^ j % 256 * (v / 256 ^ k % 256))) % 256 : Nat) : Int) → ETt g N w (trow 256 N u v j (k + 1)) ((wr.drewN kk).setCell ⟨g, j + k, none⟩ x) from fun kk x hx => by
            rw [← hset]
            exact (R4.out.drewN kk).put (j + k) _ x hx)
          have HCC := Lib.hid hcc
          clear hcc hset hd hL HX R4
          generalize u / 256 ^ j % 256 = x at *
          generalize v / 256 ^ k % 256 = y at *
          generalize tsum 256 u v j k / 256 ^ (j + k) = c at *
          generalize u % 256 ^ j * v / 256 ^ (j + k) % 256 = l at *
          have hP : x * y ≤ 65535 * 65535 := Nat.mul_le_mul (by omega) (by omega)
          obtain ⟨P, hPP⟩ : ∃ P : Nat, P = x * y := ⟨_, rfl⟩
          rw [← hPP] at hP HST HCC
          have qP : (x : Int) * (y : Int) = (P : Int) := by rw [hPP]; exact (Int.natCast_mul x y).symm
          obtain ⟨S, hSS⟩ : ∃ S : Nat, S = c + (l + P) := ⟨_, rfl⟩
          rw [← hSS] at HST HCC
          have qS : (l : Int) + (P : Int) + (c : Int) = (S : Int) := by omega
          have qS2 : (l : Int) + (P : Int) ≤ 4294967296 := by omega
          have S1 : (S : Int) ≤ 4295098368 := by omega
          have S0 : (0 : Int) ≤ (S : Int) := by omega
          have P1 : (P : Int) ≤ 4294836225 := by omega
          have P0 : (0 : Int) ≤ (P : Int) := by omega
          have l1 : (l : Int) < 256 := by omega
          have l0 : (0 : Int) ≤ (l : Int) := by omega
          obtain ⟨p, hp⟩ : ∃ p : Nat, p = j + k := ⟨_, rfl⟩
          rw [← hp] at cl fl HST
          have qp : (j : Int) + (k : Int) = (p : Int) := by omega
          have p1 : (p : Int) < N := by omega
          have p0 : (0 : Int) ≤ (p : Int) := by omega
          have kb : (k : Int) ≤ 100 := by omega
          clear hSS hPP hP hp hpN hx hy hc hl hlt
          go_wp2_with fail
          go_quiet (fail)
          have HS2 := Lib.hid (HST.out nq _ (natmodE S))
          have f2 : (wr.drewN nq).frozen? ⟨g, p, none⟩ = false := fl
          have c2 : (wr.drewN nq).cell? ⟨g, p, none⟩ = some (.int .i64 (l : Int)) := cl
          clear fl cl cx cy HST
          generalize wr.drewN nq = wq at *
          go_wp2_with fail
          go_roundw
          case rel => exact ⟨k + 1, by have := HLK.out; omega, by go_num, by rw [HCC.out]; go_num, HS2.out⟩
          case measure => simp [intOf]; have := HLK.out; have := HM.out.2.2; omega
        · have k1 : ¬ (k : Int) < m := by omega
          have hkm : k = m := by have := HK.out; omega
          subst hkm
          have hlast := trow_last 256 N u v j k (by decide) HM.out.1 (by have := HG.out; have := HLT.out; omega)
          have hpN : j + k < N := by have := HG.out; have := HLT.out; omega
          have hl := dig_lt 256 (by decide) (u % 256 ^ j * v) (j + k)
          have cl := R4.out.cell (j + k) _ hpN hL
          have fl := R4.out.free (j + k)
          have HST := Lib.hid (show ∀ x : Value, x = .int .i64 (((u % 256 ^ j * v / 256 ^ (j + k) % 256 + tsum 256 u v j k / 256 ^ (j + k) : Nat)) : Int) → ETt g N w (dgn 256 N (u % 256 ^ (j + 1) * v)) (wr.setCell ⟨g, j + k, none⟩ x) from fun x hx => by
            rw [← hlast]
            exact R4.out.put (j + k) _ x hx)
          clear hlast hL R4
          generalize tsum 256 u v j k / 256 ^ (j + k) = c at *
          generalize u % 256 ^ j * v / 256 ^ (j + k) % 256 = l at *
          have c1 : (c : Int) < 256 := by omega
          have c0 : (0 : Int) ≤ (c : Int) := by omega
          have l1 : (l : Int) < 256 := by omega
          have l0 : (0 : Int) ≤ (l : Int) := by omega
          obtain ⟨p, hp⟩ : ∃ p : Nat, p = j + k := ⟨_, rfl⟩
          rw [← hp] at cl fl HST
          have qp : (j : Int) + (k : Int) = (p : Int) := by omega
          have p1 : (p : Int) < N := by omega
          have p0 : (0 : Int) ≤ (p : Int) := by omega
          have kb : (k : Int) ≤ 100 := by omega
          have HS2 := Lib.hid (HST.out (.int .i64 ((l : Int) + (c : Int))) (by rw [Int.natCast_add]))
          clear hp hpN hc hl hlt HST hx HX
          go_wp2_with fail
          go_roundw
          case rel => exact ⟨j + 1, by have := HLT.out; omega, by go_num, HS2.out⟩
          case measure => simp [intOf]; have := HLT.out; have := HN.out.2.2; omega
    · have j1 : ¬ (j : Int) < n := by omega
      have hjn : j = n := by have := HJ.out; omega
      subst hjn
      have R9 := R1.out
      rw [Nat.mod_eq_of_lt HN.out.1] at R9
      have HB9 := Lib.hid R9.bel
      have HO9 := Lib.hid R9.own
      clear R9 R1 hlt
      go_wp2_with fail
      go_ret
      exact ⟨HB9.out, _, rfl, by rw [← HG.out]; exact HO9.out⟩
end Go.Proofs.Ytkfacnegfkgcgaa

/-
  mailsackref06.reduce: plain lemmas, and what its walk keeps.
-/
namespace Go.Proofs.Ytkfacnegfkgcgaa
open Go.RowKit MS

def lo130 (u : Nat) : Nat := u % 1361129467683753853853498429727072845824
def hi130 (u : Nat) : Nat := u / 1361129467683753853853498429727072845824
theorem p130 : (1361129467683753853853498429727072845824 : Nat) = 256 ^ 16 * 4 := by decide
theorem lo_digE (u i : Nat) (h : i < 16) : lo130 u / 256 ^ i % 256 = u / 256 ^ i % 256 := by
  rw [← dig_mod 256 16 (lo130 u) i h, ← dig_mod 256 16 u i h, lo130, p130, Nat.mod_mul_right_mod]
theorem lo_dig16 (u : Nat) : lo130 u / 256 ^ 16 % 256 = u / 256 ^ 16 % 256 % 4 := by
  rw [lo130, p130, Nat.mod_mul_right_div_self]
  omega
theorem hi_digE (u j : Nat) : hi130 u / 256 ^ j % 256 = u / 256 ^ (16 + j) % 256 / 4 + u / 256 ^ (16 + j + 1) % 256 % 4 * 64 := by
  have e : hi130 u / 256 ^ j = u / 256 ^ (16 + j) / 4 := by
    rw [hi130, p130, Nat.div_div_eq_div_mul, Nat.div_div_eq_div_mul, Nat.pow_add]
    congr 1
    rw [Nat.mul_assoc, Nat.mul_assoc, Nat.mul_comm 4]
  rw [e, Nat.pow_succ, ← Nat.div_div_eq_div_mul]
  generalize u / 256 ^ (16 + j) = X
  omega
theorem lo_ltE (u : Nat) : lo130 u < 1361129467683753853853498429727072845824 := Nat.mod_lt _ (by decide)
theorem lo_lt17 (u : Nat) : lo130 u < 256 ^ 17 := Nat.lt_trans (lo_ltE u) (by decide)
theorem hi_ltE {u n : Nat} (h : u < 256 ^ n) (hn : 16 ≤ n) : hi130 u < 256 ^ (n - 16) := by
  obtain ⟨m, rfl⟩ : ∃ m, n = 16 + m := ⟨n - 16, by omega⟩
  rw [hi130, Nat.div_lt_iff_lt_mul (by decide), p130, Nat.add_sub_cancel_left]
  refine Nat.lt_of_lt_of_le h ?_
  rw [Nat.pow_add, Nat.mul_comm, ← Nat.mul_assoc]
  exact Nat.le_mul_of_pos_right _ (by decide)
theorem hi_small {u n : Nat} (h : u < 256 ^ n) (hn : n ≤ 16) : hi130 u = 0 := by
  rw [hi130, Nat.div_eq_of_lt]
  exact Nat.lt_of_lt_of_le h (Nat.le_trans (Nat.pow_le_pow_right (by decide) hn) (by decide))
theorem fold_modE (u : Nat) : (lo130 u + 5 * hi130 u) % P130 = u % P130 := by
  have h := Nat.div_add_mod u 1361129467683753853853498429727072845824
  have e : u = lo130 u + 5 * hi130 u + P130 * hi130 u := by
    unfold lo130 hi130 P130
    omega
  conv => rhs; rw [e, Nat.add_mul_mod_self_left]
theorem fold_ltE {u : Nat} (h : hi130 u ≠ 0) : lo130 u + 5 * hi130 u < u := by
  have h1 := Nat.div_add_mod u 1361129467683753853853498429727072845824
  unfold lo130 hi130 at *
  omega
theorem fold_sameE {u : Nat} (h : hi130 u = 0) : lo130 u = u := by
  have h1 := Nat.div_add_mod u 1361129467683753853853498429727072845824
  unfold lo130 hi130 at *
  omega
/-- 17 digits below 2^130, five more: whether the prime is in it. -/
theorem five_more {u : Nat} (h : u < 1361129467683753853853498429727072845824) : u + 5 < 256 ^ 17 ∧ (3 < (u + 5) / 256 ^ 16 % 256 ↔ P130 ≤ u) ∧ (P130 ≤ u → u % P130 = u + 5 - 4 * 256 ^ 16) ∧ (u < P130 → u % P130 = u) := by
  unfold P130
  rw [show (256 : Nat) ^ 16 = 340282366920938463463374607431768211456 by decide, show (256 : Nat) ^ 17 = 87112285931760246646623899502532662132736 by decide]
  refine ⟨by omega, by omega, by omega, by omega⟩
/-- The 17th digit, four less. -/
theorem dg_less {v : Nat} (h : 3 < v / 256 ^ 16 % 256) (hv : v < 256 ^ 17) : (dgn 256 17 v).set 16 (v / 256 ^ 16 % 256 - 4) = dgn 256 17 (v - 4 * 256 ^ 16) := by
  have e1 : v - 4 * 256 ^ 16 + 4 * 256 ^ 16 = v := by
    rw [show (256 : Nat) ^ 16 = 340282366920938463463374607431768211456 by decide] at *
    omega
  rw [show dgn 256 17 v = dgn 256 16 v ++ [v / 256 ^ 16 % 256] from dg_succ _ _ _, show dgn 256 17 (v - 4 * 256 ^ 16) = dgn 256 16 (v - 4 * 256 ^ 16) ++ [(v - 4 * 256 ^ 16) / 256 ^ 16 % 256] from dg_succ _ _ _, List.set_append_right _ _ (by rw [length_dgn]; exact Nat.le_refl _), length_dgn]
  have a1 : dgn 256 16 v = dgn 256 16 (v - 4 * 256 ^ 16) := by
    refine dg_congr _ _ _ _ ?_
    conv => lhs; rw [← e1]
    rw [Nat.add_mul_mod_self_right]
  have a2 : v / 256 ^ 16 % 256 - 4 = (v - 4 * 256 ^ 16) / 256 ^ 16 % 256 := by
    clear e1 a1
    rw [show (256 : Nat) ^ 16 = 340282366920938463463374607431768211456 by decide] at *
    rw [show (256 : Nat) ^ 17 = 87112285931760246646623899502532662132736 by decide] at hv
    omega
  rw [Nat.sub_self, List.set_cons_zero, a1, a2]
theorem low_app (u j : Nat) (h : j < 16) : dgn 256 (j + 1) (lo130 u) = dgn 256 j (lo130 u) ++ [u / 256 ^ j % 256] := by
  rw [dg_succ, lo_digE u j h]
theorem low_app16 (u : Nat) : dgn 256 17 (lo130 u) = dgn 256 16 (lo130 u) ++ [u / 256 ^ 16 % 256 % 4] := by
  rw [dg_succ, lo_dig16]
theorem high_getE (u n j : Nat) (hn : u < 256 ^ n) (h16 : 16 ≤ j) : u / 256 ^ j % 256 / 4 + (if j + 1 < n then u / 256 ^ (j + 1) % 256 % 4 * 64 else 0) = hi130 u / 256 ^ (j - 16) % 256 := by
  rw [hi_digE, show 16 + (j - 16) = j by omega]
  split
  · rfl
  · rw [dig_zero hn (by decide) (show n ≤ j + 1 by omega)]
theorem high_appE (u j : Nat) (h16 : 16 ≤ j) : dgn 256 (j + 1 - 16) (hi130 u) = dgn 256 (j - 16) (hi130 u) ++ [hi130 u / 256 ^ (j - 16) % 256] := by
  rw [show j + 1 - 16 = j - 16 + 1 by omega, dg_succ]
/-- Is there anything in the digits so far? -/
def anyH (u k : Nat) : Bool := decide (hi130 u % 256 ^ k ≠ 0)
theorem anyH_zero (u : Nat) : anyH u 0 = false := by simp [anyH, Nat.mod_one]
theorem anyH_succ (u k : Nat) : anyH u (k + 1) = (anyH u k || decide (0 < hi130 u / 256 ^ k % 256)) := by
  unfold anyH
  rw [mod_succ, Bool.eq_iff_iff]
  simp only [decide_eq_true_eq, Bool.or_eq_true]
  have hp : 0 < 256 ^ k := Nat.pow_pos (by decide)
  constructor
  · intro h
    by_cases h1 : hi130 u % 256 ^ k = 0
    · right
      refine Nat.pos_of_ne_zero fun h2 => h ?_
      rw [h1, h2, Nat.mul_zero]
    · exact .inl h1
  · rintro (h | h)
    · omega
    · have := Nat.mul_pos hp h
      omega
theorem anyH_end {u k : Nat} (h : hi130 u < 256 ^ k) : anyH u k = decide (hi130 u ≠ 0) := by rw [anyH, Nat.mod_eq_of_lt h]
/-- Two rows of the call's own in different blocks. -/
def apart (x y : Value) : Prop := ∀ k, x.ownBlock = some k → y.ownBlock ≠ some k
/-- What the inner loop keeps. -/
structure PRt (w0 : World) (u k1 k2 : Nat) (x y : Value) (w : World) : Prop where
  low : w.ownsRow w0.heap.size 3 1 x k1 (evs (dgn 256 k1 (lo130 u)))
  high : w.ownsRow w0.heap.size 3 1 y k2 (evs (dgn 256 k2 (hi130 u)))
  ap : apart x y
  bel : Below w0.heap.size w0 w
theorem PRt.drewN {w0 : World} {u k1 k2 : Nat} {x y : Value} {w : World} (h : PRt w0 u k1 k2 x y w) (m : Nat) : PRt w0 u k1 k2 x y (w.drewN m) := ⟨h.low, h.high, h.ap, below_drewN h.bel m⟩
theorem PRt.start (w : World) (u : Nat) : PRt w u 0 0 (.slice none 0 0) (.slice none 0 0) w := ⟨World.ownsRow_nil _ _ _ _, World.ownsRow_nil _ _ _ _, fun _ h => by simp [Value.ownBlock] at h, Below.refl _ _⟩
/-- Something appended to low: in its own block, or in a new one. -/
theorem PRt.appLow {w0 : World} {u k1 k1' k2 : Nat} {x y : Value} {w w' : World} (h : PRt w0 u k1 k2 x y w) (o : Obj) {g n cap H : Nat} (hH : (w.alloc o).heap.size = H) (ho : w'.ownsRow w0.heap.size 3 1 (.slice (some ⟨g, 0, none⟩) n cap) k1' (evs (dgn 256 k1' (lo130 u))))
    (hg : (w.alloc o).grownBy w' x.ownBlock) (hn : x.ownBlock = some g ∨ g = H) : PRt w0 u k1' k2 (.slice (some ⟨g, 0, none⟩) n cap) y w' := by
  have hs : H = w.heap.size + 1 := by rw [← hH, World.size_alloc]
  refine ⟨ho, (h.high.alloc o).kept hg ?_, ?_, ?_⟩
  · cases hy : y.ownBlock with
    | none => exact .inl rfl
    | some k => exact .inr fun e => h.ap k e.symm hy
  · intro k hk
    simp [Value.ownBlock] at hk
    subst hk
    rcases hn with hn | hn
    · exact h.ap _ hn
    · intro e
      have := (h.high.lt _ e).2
      omega
  · exact (below_alloc h.bel o).grown hg (by rw [hH, hs]; exact Nat.le_succ_of_le h.bel.size) (fun m hm => (h.low.lt m hm).1)
theorem PRt.appHigh {w0 : World} {u k1 k2 k2' : Nat} {x y : Value} {w w' : World} (h : PRt w0 u k1 k2 x y w) (o : Obj) {g n cap H : Nat} (hH : (w.alloc o).heap.size = H) (ho : w'.ownsRow w0.heap.size 3 1 (.slice (some ⟨g, 0, none⟩) n cap) k2' (evs (dgn 256 k2' (hi130 u))))
    (hg : (w.alloc o).grownBy w' y.ownBlock) (hn : y.ownBlock = some g ∨ g = H) : PRt w0 u k1 k2' x (.slice (some ⟨g, 0, none⟩) n cap) w' := by
  have hs : H = w.heap.size + 1 := by rw [← hH, World.size_alloc]
  refine ⟨(h.low.alloc o).kept hg ?_, ho, ?_, ?_⟩
  · cases hx : x.ownBlock with
    | none => exact .inl rfl
    | some k => exact .inr fun e => h.ap k hx e.symm
  · intro k hk
    simp only [Value.ownBlock]
    rcases hn with hn | hn
    · intro e
      cases e
      exact h.ap _ hk hn
    · intro e
      cases e
      have := (h.low.lt _ hk).2
      omega
  · exact (below_alloc h.bel o).grown hg (by rw [hH, hs]; exact Nat.le_succ_of_le h.bel.size) (fun m hm => (h.high.lt m hm).1)
/-- The number that a slice of digits holds. -/
def sumE (f : Nat → Nat) : Nat → Nat
  | 0 => 0
  | n + 1 => sumE f n + 256 ^ n * f n
theorem sumE_congr {f h : Nat → Nat} (n : Nat) (hf : ∀ i, i < n → f i = h i) : sumE f n = sumE h n := by
  induction n with
  | zero => rfl
  | succ n ih => rw [sumE, sumE, ih (fun i hi => hf i (by omega)), hf n (by omega)]
theorem sumE_dig (u n : Nat) : sumE (fun i => u / 256 ^ i % 256) n = u % 256 ^ n := by
  induction n with
  | zero => simp [sumE, Nat.mod_one]
  | succ n ih => rw [sumE, ih, mod_succ]
def cellE (w : World) (a : Addr) : Nat := match w.cell? a with
  | some (.int _ x) => x.toNat
  | _ => 0
def numE (w : World) : Value → Nat
  | .slice (some a) n _ => sumE (fun i => cellE w ⟨a.block, i, none⟩) n
  | _ => 0
theorem ES.num {w : World} {base n u : Nat} {v : Value} (h : ES w base v n u) : numE w v = u := by
  obtain ⟨g, cap, rfl, -, -⟩ := h.form
  rw [numE, sumE_congr (h := fun i => u / 256 ^ i % 256) n (fun i hi => by show cellE w ⟨g, i, none⟩ = _; rw [cellE, h.cell i hi]; exact Int.toNat_natCast _), sumE_dig, Nat.mod_eq_of_lt h.2.1]
theorem own_takeE {w : World} {base g n cap m : Nat} {e : TypeId} {xs : List Value} (h : w.ownsRow base e 1 (.slice (some ⟨g, 0, none⟩) n cap) n xs) (hm : m ≤ n) : w.ownsRow base e 1 (.slice (some ⟨g, 0, none⟩) m cap) m (xs.take m) := by
  rcases h.2 with ⟨h', _⟩ | ⟨g', cap', cur, h', hb, hg, hnc, hcm, hcs, htake⟩
  · simp at h'
  · simp only [Value.slice.injEq, Option.some.injEq, Addr.mk.injEq, and_true, true_and] at h'
    obtain ⟨rfl, rfl⟩ := h'
    have hl := h.1
    refine ⟨by rw [List.length_take]; omega, .inr ⟨g, cap, cur, rfl, hb, hg, by omega, hcm, hcs, ?_⟩⟩
    rw [← htake, List.take_take]
    congr 1
    omega
theorem evs_take (l : List Nat) (m : Nat) : (evs l).take m = evs (l.take m) := by simp [evs, List.map_take]
theorem dgn_takeE (B n m u : Nat) (h : m ≤ n) : (dgn B n u).take m = dgn B m u := by
  apply List.ext_getElem?
  intro i
  rw [List.getElem?_take]
  by_cases hi : i < m
  · rw [if_pos hi, dg_get _ _ _ _ hi, dg_get _ _ _ _ (by omega)]
  · rw [if_neg hi, List.getElem?_eq_none (by rw [length_dgn]; omega)]
end Go.Proofs.Ytkfacnegfkgcgaa

/-
  mailsackref06.number: the walk.
-/
namespace Go.Proofs.Ytkfacnegfkgcgaa
open Go.RowKit MS

theorem number_step (l : List UInt8) (j : Nat) (h : j < l.length) : dgn 256 (j + 1) (leb l) = dgn 256 j (leb l) ++ [(l.getD j 0).toNat] := by
  rw [dg_succ, leb_digit l j h, List.getD_eq_getElem?_getD, List.getElem?_eq_getElem h]
  rfl

set_option maxRecDepth 1000000 in
set_option maxHeartbeats 1000000 in
theorem number_any (s : ByteArray) (w : World) (hs : s.size ≤ 90) :
    Calls Try.prog 44 #[.string s] w fun e w' => Below w.heap.size w w' ∧ ∃ r, e = .returned r ∧ w'.ownsRow w.heap.size 3 1 r s.size (evs (dgn 256 s.size (leb (ls s)))) := by
  obtain ⟨i0, hi, hz0, hz1, hz2⟩ : ∃ i, Try.prog.info? 3 = some i ∧ i.zero = some (.int .i64 0) ∧ i.size = 1 ∧ i.bytes = 8 := ⟨_, rfl, rfl, rfl, rfl⟩
  have HST := Lib.hid (fun j h => number_step (ls s) j h)
  have HLEN := Lib.hid (length_ls s)
  have HS := Lib.hid hs
  have hown0 : w.ownsRow w.heap.size 3 1 (.slice none 0 0) 0 (evs (dgn 256 0 (leb (ls s)))) := World.ownsRow_nil _ _ _ _
  have hz : (s.size : Int) ≤ 90 := by omega
  clear hs
  go_enter Try.func44, Try.ntmps44
  go_wp2_with fail
  go_loopw [3, 4] (fun v i wr => ∃ j : Nat, j ≤ s.size ∧ i = .int .i64 j ∧ wr.ownsRow w.heap.size 3 1 v j (evs (dgn 256 j (leb (ls s)))) ∧ Below w.heap.size w wr) (fun _ i _ => s.size - (intOf i).toNat)
  case atStart => exact ⟨0, by omega, rfl, hown0, Below.refl _ _⟩
  case round =>
    obtain ⟨j, hj, rfl, ho, hb⟩ := hrel
    have HO := Lib.hid ho
    have HB := Lib.hid hb
    have HJ := Lib.hid hj
    have hs0 : _ ≤ wr.heap.size := hb.size
    clear ho hb hj hown0
    by_cases hlt : j < s.size
    · have j1 : (j : Int) < s.size := by omega
      have j0 : (0 : Int) ≤ (j : Int) := by omega
      have HL := Lib.hid hlt
      have HST2 := Lib.hid (HST.out j (by rw [HLEN.out]; exact hlt))
      have g0 := ls_get s j hlt
      have b0 := UInt8.toNat_lt ((ls s).getD j 0)
      have HML := Lib.hid (show j + 1 ≤ maxLen by have := HS.out; unfold maxLen; omega)
      have HMB := Lib.hid (show (j + 1) * 8 ≤ 140737488355328 by have := HS.out; omega)
      generalize (ls s).getD j 0 = x0 at *
      have m0 : (x0.toNat : Int) < 256 := by omega
      have HAL := Lib.hid (HO.out.alloc (.cells #[.int .i64 (x0.toNat : Int)] 3 (0, 0)))
      clear b0
      go_wp2_with (at_builtin; refine wpList_append_own _ rfl (.tmp 11) (.tmp 16) 67 rfl _ 3 i0 (.int .i64 0) 1 8 Try.underlying67 hi hz0 hz1 hz2 rfl (by decide) _ _ _ rfl HAL.out ⟨wr.heap.size, 0, none⟩ 1 1 [.int .i64 (x0.toNat : Int)] rfl rfl (one_cell wr _ _) (one_one _ rfl) HML.out HMB.out (le_alloc hs0 _) ?_)
      intro v1 w1 h1 h2 h3
      have HB1 := Lib.hid (below_app HB.out _ _ _ _ _ HO.out h2)
      have HO1 := Lib.hid (show w1.ownsRow w.heap.size 3 1 v1 (j + 1) (evs (dgn 256 (j + 1) (leb (ls s)))) from by rw [HST2.out, evs_app]; exact h1)
      clear h1 h2 h3 hs0 g0 hlt
      go_wp2_with fail
      go_roundw
      case rel => exact ⟨j + 1, by have := HL.out; omega, by go_num, HO1.out, HB1.out⟩
      case measure => simp [intOf]; have := HL.out; omega
    · have j1 : ¬ (j : Int) < s.size := by omega
      have hjn : j = s.size := by have := HJ.out; omega
      have HO9 := Lib.hid (show wr.ownsRow w.heap.size 3 1 _ s.size (evs (dgn 256 s.size (leb (ls s)))) from by rw [← hjn]; exact HO.out)
      clear hlt hjn
      go_wp2_with fail
      go_ret
      exact ⟨HB.out, _, rfl, HO9.out⟩
end Go.Proofs.Ytkfacnegfkgcgaa

/-
  mailsackref06.reduce: the walk.
-/
namespace Go.Proofs.Ytkfacnegfkgcgaa
open Go.RowKit MS

def lenOfE : Value → Nat
  | .slice _ n _ => n
  | _ => 0
/-- What the outer loop keeps. -/
structure POt (w0 : World) (u n' u' : Nat) (v : Value) (w : World) : Prop where
  dig : ES w 0 v n' u'
  bd : n' ≤ 60
  eq : u' % P130 = u % P130
  bel : Below w0.heap.size w0 w

set_option maxRecDepth 1000000 in
set_option maxHeartbeats 4000000 in
theorem preduce_any (n u : Nat) (va : Value) (ba : Nat) (w : World) (ha : ES w ba va n u) (hn60 : n ≤ 60) :
    Calls Try.prog 45 #[va] w fun e w' => Below w.heap.size w w' ∧ ∃ r, e = .returned r ∧ ES w' 0 r 17 (u % P130) := by
  obtain ⟨i0, hi, hz0, hz1, hz2⟩ : ∃ i, Try.prog.info? 3 = some i ∧ i.zero = some (.int .i64 0) ∧ i.size = 1 ∧ i.bytes = 8 := ⟨_, rfl, rfl, rfl, rfl⟩
  have H0 := Lib.hid (show POt w u n u va w from ⟨ha.base (Nat.zero_le _), hn60, rfl, Below.refl _ _⟩)
  clear ha hn60
  go_enter Try.func45, Try.ntmps45
  go_wp2_with fail
  go_loopw [0] (fun v wr => ∃ n' u' : Nat, POt w u n' u' v wr) (fun v wr => numE wr v)
  case atStart => exact ⟨n, u, H0.out⟩
  case round =>
    obtain ⟨n', u', hd⟩ := hrel
    have HNUM := Lib.hid (show numE wr _ = u' from hd.dig.num)
    obtain ⟨ga, ca, rfl, -, hgw⟩ := hd.dig.form
    have HD := Lib.hid hd
    have HA := Lib.hid hd.dig.cells
    have HU := Lib.hid hd.dig.2.1
    have HN0 := Lib.hid hd.dig.2.2.1
    have HN60 := Lib.hid hd.bd
    have n1 : (n' : Int) ≤ 60 := by have := HN60.out; omega
    clear hd H0
    have R0 := Lib.hid (PRt.start wr u')
    go_wp2_with fail
    obtain ⟨wo, rfl⟩ : ∃ wo : World, wo = wr := ⟨_, rfl⟩
    go_loopw [3, 4, 5, 6] (fun x y m i wr => ∃ j : Nat, j ≤ n' ∧ i = .int .i64 j ∧ m = .bool (anyH u' (j - 16)) ∧ PRt wo u' (min j 17) (j - 16) x y wr) (fun _ _ _ i _ => 300 - (intOf i).toNat)
    case atStart => exact ⟨0, by omega, rfl, by rw [anyH_zero], R0.out⟩
    case round =>
      obtain ⟨j, hj, rfl, rfl, hr⟩ := hrel
      have R1 := Lib.hid hr
      have HJ := Lib.hid hj
      clear hr hj R0
      by_cases hlt : j < n'
      · have j1 : (j : Int) < n' := by omega
        have j0 : (0 : Int) ≤ j := by omega
        have HLT := Lib.hid hlt
        have ca0 := HA.out wr R1.out.bel j hlt
        have hx := dig_lt 256 (by decide) u' j
        by_cases h16 : j < 16
        · have k1 : (j : Int) < 16 := by omega
          have R2 := R1.out
          rw [Nat.min_eq_left (by omega), show j - 16 = 0 by omega] at R2
          have R3 := Lib.hid R2
          have HAPP := Lib.hid (low_app u' j h16)
          have H16 := Lib.hid h16
          have HAL := Lib.hid (R2.low.alloc (.cells #[.int .i64 ((u' / 256 ^ j % 256 : Nat) : Int)] 3 (0, 0)))
          have HML := Lib.hid (show j + 1 ≤ maxLen by unfold maxLen; omega)
          have HMB := Lib.hid (show (j + 1) * 8 ≤ 140737488355328 by omega)
          have hs0 : _ ≤ wr.heap.size := R2.bel.size
          clear R1 R2 h16 hlt
          generalize u' / 256 ^ j % 256 = d at *
          go_wp2_with (at_builtin; refine wpList_append_lies _ rfl (.tmp 17) (.tmp 22) 67 rfl _ 3 i0 (.int .i64 0) 1 8 Try.underlying67 hi hz0 hz1 hz2 rfl (by decide) _ _ _ rfl HAL.out ⟨wr.heap.size, 0, none⟩ 1 1 [.int .i64 (d : Int)] rfl rfl (one_cell wr _ _) (one_one _ rfl) (by decide) HML.out HMB.out (le_alloc hs0 _) (wr.heap.size + 1) (World.size_alloc _ _) ?_)
          intro g9 c9 w9 h1 h2 h3 h4
          have HR9 := Lib.hid (R3.out.appLow (k1' := j + 1) _ (World.size_alloc _ _) (by rw [HAPP.out, evs_app]; exact h1) h2 h3)
          clear h1 h2 h3 h4 ca0 hx hs0
          go_wp2_with fail
          go_roundw
          case rel => exact ⟨j + 1, HLT.out, by go_num, by rw [show j + 1 - 16 = j - 16 by have := H16.out; omega], by rw [Nat.min_eq_left (by have := H16.out; omega), show j + 1 - 16 = 0 by have := H16.out; omega]; exact HR9.out⟩
          case measure => simp [intOf]; have := HLT.out; have := HN60.out; omega
        · have k1 : ¬ (j : Int) < 16 := by omega
          have HG := Lib.hid (high_getE u' n' j HU.out (by omega))
          have HAPPH := Lib.hid (high_appE u' j (by omega))
          have HANY := Lib.hid (anyH_succ u' (j - 16))
          have HYL := Lib.hid (dig_lt 256 (by decide) u' (j + 1))
          have H16 := Lib.hid (show 16 ≤ j by omega)
          by_cases h17 : j = 16
          case' pos =>
            have k2 : ((j : Int) == 16) = true := by simp; omega
            have R2 := R1.out
            rw [Nat.min_eq_left (by omega), h17, show 16 - 16 = 0 from rfl] at R2
            have R3 := Lib.hid R2
            have HAPP := Lib.hid (show dgn 256 17 (lo130 u') = dgn 256 16 (lo130 u') ++ [u' / 256 ^ j % 256 % 4] by rw [h17]; exact low_app16 u')
            have H17 := Lib.hid h17
            have HML := Lib.hid (show 16 + 1 ≤ maxLen by unfold maxLen; decide)
            have HMB := Lib.hid (show (16 + 1) * 8 ≤ 140737488355328 by decide)
            have hs0 : _ ≤ wr.heap.size := R2.bel.size
            clear R1 R2 h16 h17 hlt
            obtain ⟨d, hd⟩ : ∃ d, d = u' / 256 ^ j % 256 := ⟨_, rfl⟩
            rw [← hd] at ca0 hx HAPP
            have HXE := Lib.hid hd
            clear hd
            have HAL := Lib.hid (R3.out.low.alloc (.cells #[.int .i64 ((d : Int) % 4)] 3 (0, 0)))
            go_upto_region 10 with (at_builtin; refine wpList_append_lies _ rfl (.tmp 26) (.tmp 32) 67 rfl _ 3 i0 (.int .i64 0) 1 8 Try.underlying67 hi hz0 hz1 hz2 rfl (by decide) _ _ _ rfl HAL.out ⟨wr.heap.size, 0, none⟩ 1 1 [.int .i64 ((d : Int) % 4)] rfl rfl (one_cell wr _ _) (one_one _ rfl) (by decide) HML.out HMB.out (le_alloc hs0 _) (wr.heap.size + 1) (World.size_alloc _ _) ?_)
            intro g9 c9 w9 h1 h2 h3 h4
            have HR0 := R3.out.appLow (k1' := 17) _ (World.size_alloc _ _) (by rw [HAPP.out, evs_app]; exact h1) h2 h3
            generalize Value.slice (some ⟨g9, 0, none⟩) (16 + 1) c9 = xl at HR0 ⊢
            have HR := Lib.hid (show PRt wo u' 17 (j - 16) xl _ w9 from by rw [H17.out]; exact HR0)
            clear h1 h2 h3 h4 ca0 HR0 hs0 HAL HML HMB R3
            go_upto_region 10 with fail
            obtain ⟨wq, rfl⟩ : ∃ wq : World, wq = w9 := ⟨_, rfl⟩
          case' neg =>
            have k2 : ((j : Int) == 16) = false := by simp; omega
            have HR0 := R1.out
            rw [Nat.min_eq_right (by omega)] at HR0
            have HR := Lib.hid HR0
            clear R1 HR0 h16 h17 hlt
            obtain ⟨d, hd⟩ : ∃ d, d = u' / 256 ^ j % 256 := ⟨_, rfl⟩
            rw [← hd] at ca0 hx
            have HXE := Lib.hid hd
            clear hd ca0
            go_upto_region 10 with fail
            obtain ⟨wq, rfl⟩ : ∃ wq : World, wq = wr := ⟨_, rfl⟩
          all_goals
            have HCA := Lib.hid (HA.out wq HR.out.bel)
            have ca0 := HCA.out j HLT.out
            rw [← HXE.out] at ca0
            have hg := HG.out
            rw [← HXE.out] at hg
            have hyl := HYL.out
            have HML := Lib.hid (show j - 16 + 1 ≤ maxLen by have := HLT.out; have := HN60.out; unfold maxLen; omega)
            have HMB := Lib.hid (show (j - 16 + 1) * 8 ≤ 140737488355328 by have := HLT.out; have := HN60.out; omega)
            by_cases hj2 : j + 1 < n'
            case' pos =>
              have m1 : (j : Int) + 1 < n' := by omega
              have m0 : (0 : Int) ≤ (j : Int) + 1 := by omega
              have ca1 := HCA.out (j + 1) hj2
              rw [if_pos hj2] at hg
              generalize u' / 256 ^ (j + 1) % 256 = y at *
              have y1 : (y : Int) < 256 := by omega
              have y0 : (0 : Int) ≤ (y : Int) := by omega
              obtain ⟨S, hS⟩ : ∃ S : Nat, S = d / 4 + y % 4 * 64 := ⟨_, rfl⟩
              have qS : (d : Int) / 4 + (y : Int) % 4 * 64 = (S : Int) := by omega
            case' neg =>
              have m1 : ¬ (j : Int) + 1 < n' := by omega
              have m0 : (0 : Int) ≤ (j : Int) + 1 := by omega
              have ca1 : True := trivial
              rw [if_neg hj2] at hg
              have y1 : True := trivial
              have y0 : True := trivial
              obtain ⟨S, hS⟩ : ∃ S : Nat, S = d / 4 + 0 := ⟨_, rfl⟩
              have qS : (d : Int) / 4 = (S : Int) := by omega
            all_goals
              rw [← hS] at hg
              have S1 : (S : Int) < 256 := by omega
              have S0 : (0 : Int) ≤ (S : Int) := by omega
              have x1 : (d : Int) < 256 := by omega
              have x0 : (0 : Int) ≤ (d : Int) := by omega
              have HAP2 := HAPPH.out
              rw [← hg] at HAP2
              have HAN2 := HANY.out
              rw [← hg] at HAN2
              have HNEXT := Lib.hid (show ∀ (v : Value) (w1 : World), w1.ownsRow wo.heap.size 3 1 v (j - 16 + 1) (evs (dgn 256 (j - 16) (hi130 u')) ++ [.int .i64 (S : Int)]) → w1.ownsRow wo.heap.size 3 1 v (j + 1 - 16) (evs (dgn 256 (j + 1 - 16) (hi130 u'))) from by
                intro v w1 h
                rw [HAP2, evs_app, show j + 1 - 16 = j - 16 + 1 by have := H16.out; omega]
                exact h)
              have HAN3 := Lib.hid (show anyH u' (j + 1 - 16) = (anyH u' (j - 16) || decide (0 < S)) by rw [← HAN2, show j + 1 - 16 = j - 16 + 1 by have := H16.out; omega])
              have HAL := Lib.hid (HR.out.high.alloc (.cells #[.int .i64 (S : Int)] 3 (0, 0)))
              have hs0 : _ ≤ wq.heap.size := HR.out.bel.size
              clear hS hg HAP2 HAPPH HG HYL hyl hx HCA hj2 k2 HAN2 HANY
              go_upto_region 13 with fail
              clear ca0 ca1 x1 x0 y1 y0 qS m1 m0 k1
              go_wp2_with (at_builtin; refine wpList_append_lies _ rfl (.tmp 53) (.tmp 55) 67 rfl _ 3 i0 (.int .i64 0) 1 8 Try.underlying67 hi hz0 hz1 hz2 rfl (by decide) _ _ _ rfl HAL.out ⟨wq.heap.size, 0, none⟩ 1 1 [.int .i64 (S : Int)] rfl rfl (one_cell wq _ _) (one_one _ rfl) (by decide) HML.out HMB.out (le_alloc hs0 _) (wq.heap.size + 1) (World.size_alloc _ _) ?_)
              intro g8 c8 w8 h1 h2 h3 h4
              have HR8 := Lib.hid (HR.out.appHigh (k2' := j + 1 - 16) _ (World.size_alloc _ _) (HNEXT.out _ _ h1) h2 h3)
              clear h1 h2 h3 h4 hs0
              generalize Value.slice (some ⟨g8, 0, none⟩) (j - 16 + 1) c8 = yl at HR8 ⊢
              obtain ⟨mo, hmo⟩ : ∃ b, anyH u' (j - 16) = b := ⟨_, rfl⟩
              rw [hmo] at HAN3 ⊢
              clear hmo
              cases mo
              · by_cases hS : 0 < S
                case' pos => have s1 : (S : Int) > 0 := by omega
                case' neg => have s1 : ¬ (S : Int) > 0 := by omega
                all_goals
                  have HD9 := Lib.hid hS
                  clear hS
                  go_wp2_with fail
                  go_roundw
                  case rel => exact ⟨j + 1, HLT.out, by go_num, by rw [HAN3.out]; simp [HD9.out], by rw [Nat.min_eq_right (by have := H16.out; omega)]; exact HR8.out⟩
                  case measure => simp [intOf]; have := HLT.out; have := HN60.out; omega
              · go_wp2_with fail
                go_roundw
                case rel => exact ⟨j + 1, HLT.out, by go_num, by rw [HAN3.out]; rfl, by rw [Nat.min_eq_right (by have := H16.out; omega)]; exact HR8.out⟩
                case measure => simp [intOf]; have := HLT.out; have := HN60.out; omega
      · have j1 : ¬ (j : Int) < n' := by omega
        have hjn : j = n' := by have := HJ.out; omega
        have R2 := R1.out
        rw [hjn] at R2
        have HEND := Lib.hid (show anyH u' (j - 16) = decide (hi130 u' ≠ 0) from by
          refine anyH_end ?_
          rw [hjn]
          rcases Nat.lt_or_ge n' 16 with h | h
          · rw [hi_small HU.out (by omega)]; exact Nat.pow_pos (by decide)
          · exact hi_ltE HU.out h)
        have BW := Lib.hid (HD.out.bel.trans (R2.bel.mono HD.out.bel.size))
        rw [HEND.out]
        by_cases hz : hi130 u' = 0
        · rw [decide_eq_false (by simpa using hz)]
          have HSM := Lib.hid (fold_sameE hz)
          have HLT := Lib.hid (show u' < 1361129467683753853853498429727072845824 by rw [← HSM.out]; exact lo_ltE u')
          have HK0 := Lib.hid (show 1 ≤ min n' 17 ∧ min n' 17 ≤ 17 ∧ u' < 256 ^ (min n' 17) from by
            refine ⟨by have := HN0.out; omega, by omega, ?_⟩
            rcases Nat.le_total n' 17 with h | h
            · rw [Nat.min_eq_left h]; exact HU.out
            · rw [Nat.min_eq_right h]; exact Nat.lt_trans HLT.out (by decide))
          have hlow := R2.low
          rw [HSM.out] at hlow
          have HLOW := Lib.hid hlow
          have BW2 := Lib.hid R2.bel
          have HMO := Lib.hid HD.out.eq
          clear hlow R2 hz hjn hlt HEND R1
          go_wp2_with fail
          obtain ⟨w5, rfl⟩ : ∃ w5 : World, w5 = wr := ⟨_, rfl⟩
          go_loopw [0] (fun v wr => ∃ k : Nat, (1 ≤ k ∧ k ≤ 17 ∧ u' < 256 ^ k) ∧ wr.ownsRow wo.heap.size 3 1 v k (evs (dgn 256 k u')) ∧ Below wo.heap.size wo wr) (fun v _ => 17 - lenOfE v)
          case atStart => exact ⟨min n' 17, HK0.out, HLOW.out, BW2.out⟩
          case round =>
            obtain ⟨k, hk, ho, hb⟩ := hrel
            obtain ⟨g1, cp, rfl, -, -⟩ := ho.form (by omega)
            have HO := Lib.hid ho
            have HB := Lib.hid hb
            have HK := Lib.hid hk
            have hs0 : _ ≤ wr.heap.size := hb.size
            have kb : (k : Int) ≤ 17 := by omega
            clear ho hb hk HLOW HK0 BW2 BW
            by_cases hlt : k < 17
            · have m1 : (k : Int) < 17 := by omega
              have HLT2 := Lib.hid hlt
              have HAL := Lib.hid (HO.out.alloc (.cells #[.int .i64 0] 3 (0, 0)))
              have HML := Lib.hid (show k + 1 ≤ maxLen by unfold maxLen; omega)
              have HMB := Lib.hid (show (k + 1) * 8 ≤ 140737488355328 by omega)
              clear hlt
              go_wp2_with (at_builtin; refine wpList_append_lies _ rfl (.tmp 73) (.tmp 74) 67 rfl _ 3 i0 (.int .i64 0) 1 8 Try.underlying67 hi hz0 hz1 hz2 rfl (by decide) _ _ _ rfl HAL.out ⟨wr.heap.size, 0, none⟩ 1 1 [.int .i64 (0)] rfl rfl (one_cell wr _ _) (one_one _ rfl) (by decide) HML.out HMB.out (le_alloc hs0 _) (wr.heap.size + 1) (World.size_alloc _ _) ?_)
              intro g9 c9 w9 h1 h2 h3 h4
              have HB9 := Lib.hid (below_app HB.out _ _ _ _ _ HO.out h2)
              have HO9 := Lib.hid (show w9.ownsRow wo.heap.size 3 1 _ (k + 1) (evs (dgn 256 (k + 1) u')) from by
                rw [dg_succ, dig_zero HK.out.2.2 (by decide) (Nat.le_refl k), evs_app]; exact h1)
              clear h1 h2 h3 h4 hs0
              go_wp2_with fail
              go_roundw
              case rel => exact ⟨k + 1, ⟨by omega, by have := HLT2.out; omega, Nat.lt_of_lt_of_le HK.out.2.2 (Nat.pow_le_pow_right (by decide) (by omega))⟩, HO9.out, HB9.out⟩
              case measure => show 17 - (k + 1) < 17 - k; have := HLT2.out; omega
            · have m1 : ¬ (k : Int) < 17 := by omega
              have hk17 : k = 17 := by have := HK.out; omega
              subst hk17
              have DA := Lib.hid (show ES (wr.alloc (.cells #[.int .i64 5] 3 (0, 0))) wo.heap.size (.slice (some ⟨g1, 0, none⟩) 17 cp) 17 u' from (show ES wr _ _ _ _ from ⟨HO.out, HK.out.2.2, by decide, by decide⟩).on ((Below.refl _ _).alloc (Nat.le_refl _) _))
              have D5 := Lib.hid (show ES (wr.alloc (.cells #[.int .i64 5] 3 (0, 0))) wr.heap.size (.slice (some ⟨wr.heap.size, 0, none⟩) 1 1) 1 5 from ⟨World.ownsRow_lit (base := wr.heap.size) (e := 3) (size := 1) wr #[.int .i64 5] 1 (Nat.le_refl _) (by decide) rfl, by decide, by decide, by decide⟩)
              have HCAP := Lib.hid (own_cap HO.out)
              have BA := Lib.hid (show Below w.heap.size w (wr.alloc (.cells #[.int .i64 5] 3 (0, 0))) from below_alloc (HD.out.bel.trans (HB.out.mono HD.out.bel.size)) _)
              have F5 := Lib.hid (five_more HLT.out)
              clear hs0 hlt
              go_wp2_with fail
              refine (padd_any 17 1 u' 5 _ _ _ _ _ DA.out D5.out).mono ?_
              rintro e w7 ⟨hb7, r7, k2, rfl, p1, p2, p3, p4, ho7⟩
              have DA7 := Lib.hid (DA.out.on hb7)
              have B7 := Lib.hid (BA.out.trans (hb7.mono BA.out.size))
              obtain ⟨g2, c2, rfl, -, -⟩ := ho7.form (by omega)
              have HO7 := Lib.hid ho7
              have hc2 := own_cap ho7
              have cd : w7.cell? ⟨g2, 16, none⟩ = some (.int .i64 (((u' + 5) / 256 ^ 16 % 256 : Nat) : Int)) := by
                rw [ho7.cellAt 16 (by omega), evs, List.getElem?_map, dg_get _ _ _ _ (by omega)]
                rfl
              have fd := ho7.frozenAt 16
              have hx := dig_lt 256 (by decide) (u' + 5) 16
              have q1 : (k2 : Int) > 16 := by omega
              have q2 : (k2 : Int) ≤ 18 := by omega
              have q3 : (17 : Int) ≤ (c2 : Int) := by omega
              have q4 : (17 : Int) ≤ (cp : Int) := by have := HCAP.out.1; omega
              have HK2 := Lib.hid p1
              clear hb7 ho7 p1 p2 p3 p4 DA D5 BA hc2 HCAP
              obtain ⟨d, hd⟩ : ∃ d, d = (u' + 5) / 256 ^ 16 % 256 := ⟨_, rfl⟩
              rw [← hd] at cd hx
              have HDE := Lib.hid hd
              clear hd
              by_cases h3 : 3 < d
              · have z1 : (d : Int) > 3 := by omega
                have HP := (HO7.out.stored 16 (.int .i64 ((d : Int) - 4))).1
                have HT := own_takeE HP (m := 17) HK2.out
                have h3' : 3 < (u' + 5) / 256 ^ 16 % 256 := by rw [← HDE.out]; exact h3
                have e1 : ((evs (dgn 256 k2 (u' + 5))).set 16 (.int .i64 ((d : Int) - 4))).take 17 = evs (dgn 256 17 (u' % P130)) := by
                  rw [F5.out.2.2.1 (F5.out.2.1.1 h3'), ← dg_less h3' F5.out.1, List.take_set, evs_take, dgn_takeE _ _ _ _ HK2.out, ← HDE.out]
                  rw [show (d : Int) - 4 = ((d - 4 : Nat) : Int) by omega]
                  simp [evs, List.map_set]
                rw [e1] at HT
                have HRES := Lib.hid (show ES (w7.setCell ⟨g2, 16, none⟩ (.int .i64 ((d : Int) - 4))) 0 (.slice (some ⟨g2, 0, none⟩) 17 c2) 17 (u % P130) from by
                  rw [← HMO.out]
                  exact (show ES _ _ _ 17 (u' % P130) from ⟨HT, Nat.lt_trans (Nat.mod_lt _ (by decide)) (show P130 < 256 ^ 17 by decide), by decide, by decide⟩).base (Nat.zero_le _))
                have HBR := Lib.hid (show Below w.heap.size w (w7.setCell ⟨g2, 16, none⟩ (.int .i64 ((d : Int) - 4))) from B7.out.setCell (show w.heap.size ≤ g2 from Nat.le_trans (HD.out.bel.size) (by have := (own_cap HO7.out).2.2.1; rw [World.size_alloc] at this; have := HB.out.size; omega)) _)
                have d0 : (0 : Int) ≤ (d : Int) := by omega
                have d1 : (d : Int) < 256 := by omega
                clear HP HT h3' e1 h3 hx
                go_wp2_with fail
                go_ret
                exact ⟨HBR.out, _, rfl, HRES.out⟩
              · have z1 : ¬ (d : Int) > 3 := by omega
                have h3' : ¬ 3 < (u' + 5) / 256 ^ 16 % 256 := by rw [← HDE.out]; exact h3
                have HRES := Lib.hid (show ES w7 0 (.slice (some ⟨g1, 0, none⟩) 17 cp) 17 (u % P130) from by
                  rw [← HMO.out, F5.out.2.2.2 (Nat.lt_of_not_le fun h => h3' (F5.out.2.1.2 h))]
                  exact DA7.out.base (Nat.zero_le _))
                have d0 : (0 : Int) ≤ (d : Int) := by omega
                have d1 : (d : Int) < 256 := by omega
                clear h3' h3 hx fd
                go_wp2_with fail
                go_ret
                exact ⟨B7.out, _, rfl, HRES.out⟩
        · rw [decide_eq_true (by simpa using hz)]
          have H17 := Lib.hid (show 17 ≤ n' from Nat.lt_of_not_le fun h => hz (hi_small HU.out h))
          have HNZ := Lib.hid hz
          rw [Nat.min_eq_right H17.out] at R2
          obtain ⟨k0, hk0⟩ : ∃ k0, n' - 16 = k0 + 1 := ⟨n' - 17, by have := H17.out; omega⟩
          have HHI := Lib.hid (show hi130 u' < 256 ^ (k0 + 1) by rw [← hk0]; exact hi_ltE HU.out (by have := H17.out; omega))
          rw [hk0] at R2
          have HK0 := Lib.hid (show k0 + 1 ≤ 44 by have := HN60.out; omega)
          have DL0 := Lib.hid (show ES (wr.alloc (.cells #[.int .i64 5] 3 (0, 0))) wo.heap.size _ 17 (lo130 u') from (show ES wr _ _ _ _ from ⟨R2.low, lo_lt17 u', by decide, by decide⟩).on ((Below.refl _ _).alloc (Nat.le_refl _) _))
          have DH := Lib.hid (show ES (wr.alloc (.cells #[.int .i64 5] 3 (0, 0))) wo.heap.size _ (k0 + 1) (hi130 u') from (show ES wr _ _ _ _ from ⟨R2.high, HHI.out, by omega, by have := HK0.out; omega⟩).on ((Below.refl _ _).alloc (Nat.le_refl _) _))
          have D5 := Lib.hid (show ES (wr.alloc (.cells #[.int .i64 5] 3 (0, 0))) wr.heap.size (.slice (some ⟨wr.heap.size, 0, none⟩) 1 1) 1 5 from ⟨World.ownsRow_lit (base := wr.heap.size) (e := 3) (size := 1) wr #[.int .i64 5] 1 (Nat.le_refl _) (by decide) rfl, by decide, by decide, by decide⟩)
          have BA := Lib.hid (show Below w.heap.size w (wr.alloc (.cells #[.int .i64 5] 3 (0, 0))) from below_alloc BW.out _)
          clear hz hk0 R2 R1 hlt hjn HEND
          go_wp2_with fail
          refine (ptimes_any (k0 + 1) 1 (hi130 u') 5 _ _ _ _ _ DH.out D5.out).mono ?_
          rintro e w7 ⟨hb7, r7, rfl, ho7⟩
          have DT := Lib.hid (show ES w7 _ r7 (k0 + 1 + 1) (hi130 u' * 5) from ⟨ho7, prod_lt_pow HHI.out (by decide) (by decide), by omega, by have := HK0.out; omega⟩)
          have DL := Lib.hid (DL0.out.on hb7)
          have B7 := Lib.hid (BA.out.trans (hb7.mono BA.out.size))
          clear hb7 ho7 D5 DH DL0 BA
          go_wp2_with fail
          refine (padd_any 17 (k0 + 1 + 1) (lo130 u') (hi130 u' * 5) _ _ _ _ _ DL.out DT.out).mono ?_
          rintro e w8 ⟨hb8, r8, k2, rfl, p1, p2, p3, p4, ho8⟩
          have P8 := Lib.hid (show POt w u k2 (lo130 u' + hi130 u' * 5) r8 w8 from ⟨(show ES w8 _ r8 k2 _ from ⟨ho8, p4, by omega, by have := HK0.out; omega⟩).base (Nat.zero_le _), by have := HK0.out; omega, by rw [Nat.mul_comm, fold_modE]; exact HD.out.eq, B7.out.trans (hb8.mono B7.out.size)⟩)
          clear hb8 ho8 p1 p2 p3 p4 DT DL B7 HHI HK0
          go_wp2_with fail
          go_roundw
          case rel => exact ⟨_, _, P8.out⟩
          case measure => rw [HNUM.out, P8.out.dig.num]; have := fold_ltE HNZ.out; omega
end Go.Proofs.Ytkfacnegfkgcgaa

/-
  mailsackref06.Tag: the walk.
-/
namespace Go.Proofs.Ytkfacnegfkgcgaa
open Go.RowKit MS

/-- The key's digits behind j rounds. -/
def clR (v j : Nat) : List Nat := (List.range 16).map fun i => if i < j then clD i (v / 256 ^ i % 256) else v / 256 ^ i % 256
theorem length_clR (v j : Nat) : (clR v j).length = 16 := by simp [clR]
theorem clR_get (v j i : Nat) (h : i < 16) : (clR v j)[i]? = some (if i < j then clD i (v / 256 ^ i % 256) else v / 256 ^ i % 256) := by simp [clR, h]
theorem clR_zero (v : Nat) : clR v 0 = dgn 256 16 v := by simp [clR, dgn]
theorem clR_set (v j d : Nat) (hj : j < 16) (hd : d = clD j (v / 256 ^ j % 256)) : (clR v j).set j d = clR v (j + 1) := by
  subst hd
  apply List.ext_getElem?
  intro i
  rw [List.getElem?_set, length_clR]
  by_cases h : i < 16
  · rw [clR_get _ _ _ h, clR_get _ _ _ h]
    by_cases e : j = i
    · subst e; rw [if_pos rfl, if_pos h, if_pos (Nat.lt_succ_self j)]
    · rw [if_neg e]
      congr 1
      by_cases h2 : i < j
      · rw [if_pos h2, if_pos (by omega)]
      · rw [if_neg h2, if_neg (by omega)]
  · rw [List.getElem?_eq_none (by rw [length_clR]; omega)]
    split
    · exfalso; omega
    · exact (List.getElem?_eq_none (by rw [length_clR]; omega)).symm
theorem clR_end (v : Nat) (hv : v < 340282366920938463463374607431768211456) : clR v 16 = dgn 256 16 (clampN v) := by
  apply List.ext_getElem?
  intro i
  by_cases h : i < 16
  · rw [clR_get _ _ _ h, if_pos h, dg_get _ _ _ _ h, clampN_dig v i h hv]
  · rw [List.getElem?_eq_none (by rw [length_clR]; omega), List.getElem?_eq_none (by rw [length_dgn]; omega)]
theorem clD_same {i d : Nat} (h3 : i % 4 ≠ 3) (h0 : ¬ (i % 4 = 0 ∧ 0 < i)) : clD i d = d := by rw [clD, if_neg h3, if_neg h0]
theorem clD_three {i d : Nat} (h3 : i % 4 = 3) : clD i d = d % 16 := if_pos h3
theorem clD_four {i d : Nat} (h3 : i % 4 = 0) (h0 : 0 < i) : clD i d = d / 4 * 4 := by rw [clD, if_neg (by omega), if_pos ⟨h3, h0⟩]
/-- A row of 16 digits of the call's own. -/
structure KRt (g cap : Nat) (w0 : World) (l : List Nat) (w : World) : Prop where
  own : w.ownsRow w0.heap.size 3 1 (.slice (some ⟨g, 0, none⟩) 16 cap) 16 (evs l)
  bel : Below w0.heap.size w0 w
theorem KRt.cell {g cap : Nat} {w0 w : World} {l : List Nat} (h : KRt g cap w0 l w) (j x : Nat) (hj : j < 16) (hx : l[j]? = some x) : w.cell? ⟨g, j, none⟩ = some (.int .i64 (x : Int)) := by
  rw [h.own.cellAt j (by omega), evs, List.getElem?_map, hx]
  rfl
theorem KRt.free {g cap : Nat} {w0 w : World} {l : List Nat} (h : KRt g cap w0 l w) (j : Nat) : w.frozen? ⟨g, j, none⟩ = false := h.own.frozenAt j
theorem KRt.put {g cap : Nat} {w0 w : World} {l : List Nat} (h : KRt g cap w0 l w) (j x : Nat) (v : Value) (hv : v = .int .i64 (x : Int)) : KRt g cap w0 (l.set j x) (w.setCell ⟨g, j, none⟩ v) := by
  subst hv
  refine ⟨?_, h.bel.setCell ((own_cap h.own).2.2.1) _⟩
  have := (h.own.stored j (.int .i64 (x : Int))).1
  rwa [show (evs l).set j (.int .i64 (x : Int)) = evs (l.set j x) by simp [evs, List.map_set]] at this
/-- A block's digits, and a 1 behind them. -/
theorem blk_dig (b : List UInt8) : dgn 256 (b.length + 1) (leb b + 256 ^ b.length) = dgn 256 b.length (leb b) ++ [1] := by
  have hl := leb_lt b
  have hp : 0 < 256 ^ b.length := Nat.pow_pos (by decide)
  rw [dg_succ]
  have e1 : (leb b + 256 ^ b.length) / 256 ^ b.length = 1 := by
    rw [Nat.add_div_right _ hp, Nat.div_eq_of_lt hl]
  rw [e1, dg_congr 256 b.length (leb b + 256 ^ b.length) (leb b) (by rw [Nat.add_mod_right])]
theorem blk_lt (b : List UInt8) : leb b + 256 ^ b.length < 256 ^ (b.length + 1) := by
  have hl := leb_lt b
  rw [Nat.pow_succ]
  omega
theorem ext_blk (s : ByteArray) (k e : Nat) (he : e = min (16 * k + 16) s.size) : ls (s.extract (16 * k) e) = blkP (ls s) k := by
  have hl := length_ls s
  rw [ls_extract, blkP]
  apply List.ext_getElem?
  intro i
  rw [List.getElem?_take, List.getElem?_take, List.getElem?_drop]
  by_cases h : i < 16
  · rw [if_pos h]
    split
    · rfl
    · rw [List.getElem?_eq_none (by omega)]
  · rw [if_neg h, if_neg (by omega)]
theorem tag_bytes (V j : Nat) : nbs (j + 1) V = nbs j V ++ [UInt8.ofNat (V / 256 ^ j % 256)] := by
  rw [nbs, dg_succ, List.map_append]; rfl

set_option maxRecDepth 1000000 in
set_option maxHeartbeats 4000000 in
theorem rtag_any (key s : ByteArray) (w : World) (hk : key.size = 32) (hs : s.size ≤ 100000) :
    Calls Try.prog 27 #[.string key, .string s] w fun e w' => e = .returned (.string (tagB key s)) ∧ Below w.heap.size w w' := by
  obtain ⟨i0, hi, hz0, hz1, hz2⟩ : ∃ i, Try.prog.info? 3 = some i ∧ i.zero = some (.int .i64 0) ∧ i.size = 1 ∧ i.bytes = 8 := ⟨_, rfl, rfl, rfl, rfl⟩
  obtain ⟨i8, hj0, hy0, hy1, hy2⟩ : ∃ i, Try.prog.info? 5 = some i ∧ i.zero = some (.int .u8 0) ∧ i.size = 1 ∧ i.bytes = 1 := ⟨_, rfl, rfl, rfl, rfl⟩
  have HK := Lib.hid hk
  have HS := Lib.hid hs
  have k32 : (key.size : Int) = 32 := by omega
  have k16 : (16 : Int) ≤ key.size := by omega
  have N1 := Lib.hid (fun w => number_any (key.extract 0 16) w (by rw [ByteArray.size_extract]; omega))
  have e1 : (key.extract 0 16).size = 16 := by rw [ByteArray.size_extract]; omega
  have e2 : ls (key.extract 0 16) = (ls key).take 16 := by rw [ls_extract, List.drop_zero]
  rw [e1, e2] at N1
  have N2 := Lib.hid (fun w => number_any (key.extract 16 key.size) w (by rw [ByteArray.size_extract]; omega))
  have e3 : (key.extract 16 key.size).size = 16 := by rw [ByteArray.size_extract]; omega
  have e4 : ls (key.extract 16 key.size) = (ls key).drop 16 := by
    rw [ls_extract, List.take_of_length_le (by rw [List.length_drop, length_ls]; omega)]
  rw [e3, e4] at N2
  have HLV := Lib.hid (show leb ((ls key).take 16) < 340282366920938463463374607431768211456 by
    have := leb_lt ((ls key).take 16)
    rwa [List.length_take, length_ls, hk, show (256 : Nat) ^ min 16 32 = 340282366920938463463374607431768211456 by decide] at this)
  have HLH := Lib.hid (show leb ((ls key).drop 16) < 256 ^ 16 from half_lt key hk)
  have HR := Lib.hid (show tagB key s = bs (nbs 16 (hP (clampN (leb ((ls key).take 16))) (ls s) ((s.size + 15) / 16) + leb ((ls key).drop 16))) from rfl)
  generalize leb ((ls key).take 16) = V at *
  generalize leb ((ls key).drop 16) = H at *
  generalize tagB key s = R at HR ⊢
  clear hk hs e1 e2 e3 e4
  go_enter Try.func27, Try.ntmps27
  go_wp2_with fail
  refine (N1.out _).mono ?_
  rintro e w1 ⟨hb1, r1, rfl, ho1⟩
  obtain ⟨g1, cp1, rfl, -, -⟩ := ho1.form (by decide)
  have K0 := Lib.hid (show KRt g1 cp1 w (clR V 0) w1 from ⟨by rw [clR_zero]; exact ho1, hb1⟩)
  clear ho1 hb1 N1
  go_wp2_with fail
  go_loopw [6] (fun i wr => ∃ j : Nat, j ≤ 16 ∧ i = .int .i64 j ∧ KRt g1 cp1 w (clR V j) wr) (fun i _ => 16 - (intOf i).toNat)
  case atStart => exact ⟨0, by omega, rfl, K0.out⟩
  case round =>
    obtain ⟨j, hj, rfl, hr⟩ := hrel
    have R1 := Lib.hid hr
    have HJ := Lib.hid hj
    clear hr hj K0
    by_cases hlt : j < 16
    · have j1 : (j : Int) < 16 := by omega
      have j0 : (0 : Int) ≤ (j : Int) := by omega
      have HLT := Lib.hid hlt
      have hg := clR_get V j j hlt
      rw [if_neg (Nat.lt_irrefl j)] at hg
      have ca := R1.out.cell j _ hlt hg
      have fa := R1.out.free j
      have hx := dig_lt 256 (by decide) V j
      have HST := Lib.hid (fun d h => clR_set V j d hlt h)
      clear hg
      obtain ⟨d, hd⟩ : ∃ d, d = V / 256 ^ j % 256 := ⟨_, rfl⟩
      rw [← hd] at ca hx HST
      clear hd
      have d0 : (0 : Int) ≤ (d : Int) := by omega
      have d1 : (d : Int) < 256 := by omega
      by_cases h3 : j % 4 = 3
      · have t1 : (((j : Int) % 4) == 3) = true := by simp; omega
        have t2 : (((j : Int) % 4) == 0) = false := by simp; omega
        have HP := Lib.hid (R1.out.put j (d % 16) (.int .i64 ((d : Int) % 16)) rfl)
        have HST2 := Lib.hid (HST.out (d % 16) (clD_three h3).symm)
        clear h3 hlt hx R1
        go_wp2_with fail
        go_roundw
        case rel => exact ⟨j + 1, HLT.out, by go_num, by rw [← HST2.out]; exact HP.out⟩
        case measure => simp [intOf]; have := HLT.out; omega
      · have t1 : (((j : Int) % 4) == 3) = false := by simp; omega
        by_cases h0 : j % 4 = 0 ∧ 0 < j
        · obtain ⟨h00, h01⟩ := h0
          have t2 : (((j : Int) % 4) == 0) = true := by simp; omega
          have t3 : (j : Int) > 0 := by omega
          have HP := Lib.hid (R1.out.put j (d / 4 * 4) (.int .i64 ((d : Int) / 4 * 4)) (by rw [Int.natCast_mul]; rfl))
          have HST2 := Lib.hid (HST.out (d / 4 * 4) (clD_four h00 h01).symm)
          clear h3 hlt hx R1 h00 h01
          go_wp2_with fail
          go_roundw
          case rel => exact ⟨j + 1, HLT.out, by go_num, by rw [← HST2.out]; exact HP.out⟩
          case measure => simp [intOf]; have := HLT.out; omega
        · have HST2 := Lib.hid (show KRt g1 cp1 w (clR V (j + 1)) wr from by
            rw [← HST.out d (clD_same h3 h0).symm]
            have hg := clR_get V j j hlt
            have e : (clR V j).set j d = clR V j := by
              apply List.ext_getElem?
              intro i
              rw [List.getElem?_set]
              split
              · rename_i e; subst e
                rw [if_pos (by rw [length_clR]; exact hlt)]
                have h1 := R1.out.cell j _ hlt hg
                rw [ca] at h1
                simp only [Option.some.injEq, Value.int.injEq, true_and] at h1
                rw [hg]
                congr 1
                exact_mod_cast h1
              · rfl
            rw [e]; exact R1.out)
          by_cases h00 : j % 4 = 0
          · have t2 : (((j : Int) % 4) == 0) = true := by simp; omega
            have t3 : ¬ (j : Int) > 0 := by omega
            clear h3 hlt hx R1 h00 h0
            go_wp2_with fail
            go_roundw
            case rel => exact ⟨j + 1, HLT.out, by go_num, HST2.out⟩
            case measure => simp [intOf]; have := HLT.out; omega
          · have t2 : (((j : Int) % 4) == 0) = false := by simp; omega
            clear h3 hlt hx R1 h00 h0
            go_wp2_with fail
            go_roundw
            case rel => exact ⟨j + 1, HLT.out, by go_num, HST2.out⟩
            case measure => simp [intOf]; have := HLT.out; omega
    · have j1 : ¬ (j : Int) < 16 := by omega
      have hj16 : j = 16 := by have := HJ.out; omega
      subst hj16
      have R2 := R1.out.own
      rw [clR_end V HLV.out] at R2
      have DR0 := Lib.hid (show ES wr w.heap.size (.slice (some ⟨g1, 0, none⟩) 16 cp1) 16 (clampN V) from ⟨R2, Nat.lt_of_lt_of_le clampN_lt (by decide), by decide, by decide⟩)
      have B0 := Lib.hid R1.out.bel
      clear R1 R2 hlt
      have DH0 := Lib.hid (show ES (wr.alloc (.cells #[.int .i64 0] 3 (0, 0))) 0 (.slice (some ⟨wr.heap.size, 0, none⟩) 1 1) 1 (hP (clampN V) (ls s) 0) from (show ES _ wr.heap.size _ 1 0 from ⟨World.ownsRow_lit (base := wr.heap.size) (e := 3) (size := 1) wr #[.int .i64 0] 1 (Nat.le_refl _) (by decide) rfl, by decide, by decide, by decide⟩).base (Nat.zero_le _))
      have DR1 := Lib.hid (DR0.out.on ((Below.refl wr.heap.size wr).alloc (Nat.le_refl _) (.cells #[.int .i64 0] 3 (0, 0))))
      have B1 := Lib.hid (below_alloc B0.out (.cells #[.int .i64 0] 3 (0, 0)))
      have KZ := Lib.hid (show 1 ≤ 17 by decide)
      clear DR0 B0
      go_wp2_with fail
      generalize wr.alloc (.cells #[.int .i64 0] 3 (0, 0)) = w2 at DH0 DR1 B1 ⊢
      generalize Value.slice (some ⟨wr.heap.size, 0, none⟩) 1 1 = hv0 at DH0 ⊢
      go_loopw [7, 8] (fun hv i wr => ∃ k m : Nat, k ≤ (s.size + 15) / 16 ∧ i = .int .i64 (16 * (k : Int)) ∧ m ≤ 17 ∧ ES wr 0 hv m (hP (clampN V) (ls s) k) ∧ ES wr w.heap.size (.slice (some ⟨g1, 0, none⟩) 16 cp1) 16 (clampN V) ∧ Below w.heap.size w wr) (fun _ i _ => 1000000 - (intOf i).toNat)
      case atStart => exact ⟨0, 1, by omega, rfl, KZ.out, DH0.out, DR1.out, B1.out⟩
      case round =>
        obtain ⟨k, m, hk, rfl, hm, hd, hr, hb⟩ := hrel
        obtain ⟨gh, ch, rfl, -, -⟩ := hd.form
        have D1 := Lib.hid hd
        have DR := Lib.hid hr
        have HB := Lib.hid hb
        have HKK := Lib.hid hk
        have HM := Lib.hid hm
        have sb : (s.size : Int) ≤ 100000 := by have := HS.out; omega
        clear hd hr hb hk hm DH0 DR1 B1 KZ
        by_cases hlt : 16 * k < s.size
        · have j1 : 16 * (k : Int) < s.size := by omega
          have j0 : (0 : Int) ≤ 16 * (k : Int) := by omega
          have e1 : (16 * (k : Int)).toNat = 16 * k := by omega
          have HLT := Lib.hid hlt
          by_cases hfull : 16 * k + 16 ≤ s.size
          case' pos =>
            have q1 : ¬ 16 * (k : Int) + 16 > s.size := by omega
            have q2 : 16 * (k : Int) ≤ 16 * (k : Int) + 16 := by omega
            have q3 : 16 * (k : Int) + 16 ≤ s.size := by omega
            have e2 : (16 * (k : Int) + 16).toNat = 16 * k + 16 := by omega
            have HX := Lib.hid (ext_blk s k (16 * k + 16) (by omega))
            have HXS := Lib.hid (show (s.extract (16 * k) (16 * k + 16)).size = (blkP (ls s) k).length by rw [← ext_blk s k (16 * k + 16) (by omega), length_ls])
            have NX := Lib.hid (fun w => number_any (s.extract (16 * k) (16 * k + 16)) w (by rw [ByteArray.size_extract]; omega))
          case' neg =>
            have q1 : 16 * (k : Int) + 16 > s.size := by omega
            have q2 : 16 * (k : Int) ≤ s.size := by omega
            have q3 : True := trivial
            have e2 : True := trivial
            have HX := Lib.hid (ext_blk s k s.size (by omega))
            have HXS := Lib.hid (show (s.extract (16 * k) s.size).size = (blkP (ls s) k).length by rw [← ext_blk s k s.size (by omega), length_ls])
            have NX := Lib.hid (fun w => number_any (s.extract (16 * k) s.size) w (by rw [ByteArray.size_extract]; omega))
          all_goals
            rw [HX.out, HXS.out] at NX
            have HBL := Lib.hid (show (blkP (ls s) k).length ≤ 16 by unfold blkP; rw [List.length_take]; omega)
            have HDG := Lib.hid (blk_dig (blkP (ls s) k))
            have HBD := Lib.hid (blk_lt (blkP (ls s) k))
            have HHP := Lib.hid (show hP (clampN V) (ls s) (k + 1) = (hP (clampN V) (ls s) k + (leb (blkP (ls s) k) + 256 ^ (blkP (ls s) k).length)) * clampN V % P130 from rfl)
            generalize blkP (ls s) k = bl at NX HBL HDG HBD HHP
            clear hfull hlt HX HXS
            go_wp2_with fail
            refine (NX.out _).mono ?_
            rintro e w3 ⟨hb3, r3, rfl, ho3⟩
            have hs0 : _ ≤ w3.heap.size := hb3.size
            have HB3 := Lib.hid hb3
            have HO3 := Lib.hid ho3
            have HAL := Lib.hid (ho3.alloc (.cells #[.int .i64 1] 3 (0, 0)))
            have HML := Lib.hid (show bl.length + 1 ≤ maxLen by have := HBL.out; unfold maxLen; omega)
            have HMB := Lib.hid (show (bl.length + 1) * 8 ≤ 140737488355328 by have := HBL.out; omega)
            clear hb3 ho3 NX
            go_wp2_with (at_builtin; refine wpList_append_own _ rfl (.tmp 67) (.tmp 68) 67 rfl _ 3 i0 (.int .i64 0) 1 8 Try.underlying67 hi hz0 hz1 hz2 rfl (by decide) _ _ _ rfl HAL.out ⟨w3.heap.size, 0, none⟩ 1 1 [.int .i64 (1)] rfl rfl (one_cell w3 _ _) (one_one _ rfl) HML.out HMB.out (le_alloc hs0 _) ?_)
            intro v4 w4 h1 h2 h3
            have HB4 := Lib.hid (below_app HB3.out _ _ _ _ _ HO3.out h2)
            have DB4 := Lib.hid (show ES w4 wr.heap.size v4 (bl.length + 1) (leb bl + 256 ^ bl.length) from ⟨by rw [HDG.out, evs_app]; exact h1, HBD.out, by omega, by have := HBL.out; omega⟩)
            have D4 := Lib.hid (D1.out.on HB4.out)
            have DR4 := Lib.hid (DR.out.on HB4.out)
            have BW4 := Lib.hid (HB.out.trans (HB4.out.mono HB.out.size))
            clear h1 h2 h3 hs0 HAL HML HMB HB3 HO3 D1 DR HB
            go_wp2_with fail
            refine (padd_any m (bl.length + 1) _ _ _ _ _ _ _ D4.out DB4.out).mono ?_
            rintro e w5 ⟨hb5, r5, k2, rfl, p1, p2, p3, p4, ho5⟩
            have HK2 := Lib.hid (show k2 ≤ 18 by have := HBL.out; have := HM.out; omega)
            have D5 := Lib.hid (show ES w5 _ r5 k2 (hP (clampN V) (ls s) k + (leb bl + 256 ^ bl.length)) from ⟨ho5, p4, by omega, by have := HK2.out; omega⟩)
            have DR5 := Lib.hid (DR4.out.on hb5)
            have BW5 := Lib.hid (BW4.out.trans (hb5.mono BW4.out.size))
            clear hb5 ho5 p1 p2 p3 p4 D4 DR4 BW4 DB4
            go_wp2_with fail
            refine (ptimes_any k2 16 _ _ _ _ _ _ _ D5.out DR5.out).mono ?_
            rintro e w6 ⟨hb6, r6, rfl, ho6⟩
            have D6 := Lib.hid (show ES w6 _ r6 (k2 + 16) ((hP (clampN V) (ls s) k + (leb bl + 256 ^ bl.length)) * clampN V) from ⟨ho6, prod_lt_pow D5.out.2.1 DR5.out.2.1 (by decide), by omega, by have := HK2.out; omega⟩)
            have DR6 := Lib.hid (DR5.out.on hb6)
            have BW6 := Lib.hid (BW5.out.trans (hb6.mono BW5.out.size))
            clear hb6 ho6 D5 DR5 BW5
            go_wp2_with fail
            refine (preduce_any (k2 + 16) _ _ _ _ D6.out (by have := HK2.out; omega)).mono ?_
            rintro e w7 ⟨hb7, r7, rfl, hd7⟩
            have D7 := Lib.hid (show ES w7 0 r7 17 (hP (clampN V) (ls s) (k + 1)) from by rw [HHP.out]; exact hd7)
            have DR7 := Lib.hid (DR6.out.on hb7)
            have BW7 := Lib.hid (BW6.out.trans (hb7.mono BW6.out.size))
            clear hb7 hd7 D6 DR6 BW6 HHP HBD HDG
            go_wp2_with fail
            go_roundw
            case rel => exact ⟨k + 1, 17, by have := HLT.out; omega, by go_num, Nat.le_refl _, D7.out, DR7.out, BW7.out⟩
            case measure => simp [intOf]; have := HLT.out; have := HS.out; omega
        · have j1 : ¬ 16 * (k : Int) < s.size := by omega
          have HKN := Lib.hid (show k = (s.size + 15) / 16 by have := HKK.out; omega)
          have D2 := Lib.hid (show ES wr 0 (.slice (some ⟨gh, 0, none⟩) m ch) m (hP (clampN V) (ls s) ((s.size + 15) / 16)) from by rw [← HKN.out]; exact D1.out)
          generalize hP (clampN V) (ls s) ((s.size + 15) / 16) = X at *
          clear D1 HKN HKK hlt DR
          go_wp2_with fail
          ((with_reducible refine (N2.out _).mono ?_))
          rintro e w3 ⟨hb3, r3, rfl, ho3⟩
          have D3 := Lib.hid (D2.out.on hb3)
          have DB3 := Lib.hid (show ES w3 _ r3 16 H from ⟨ho3, HLH.out, by decide, by decide⟩)
          have B3 := Lib.hid (HB.out.trans (hb3.mono HB.out.size))
          clear hb3 ho3 N2 D2 HB
          go_wp2_with fail
          refine (padd_any m 16 _ _ _ _ _ _ _ D3.out DB3.out).mono ?_
          rintro e w4 ⟨hb4, r4, k2, rfl, p1, p2, p3, p4, ho4⟩
          obtain ⟨g4, c4, rfl, -, -⟩ := ho4.form (by omega)
          have HK2 := Lib.hid p2
          have HK3 := Lib.hid (show k2 ≤ 18 by have := HM.out; omega)
          have HO4 := Lib.hid (show ES w4 _ (.slice (some ⟨g4, 0, none⟩) k2 c4) k2 (X + H) from ⟨ho4, p4, by omega, by have := HK3.out; omega⟩)
          have B4 := Lib.hid (B3.out.trans (hb4.mono B3.out.size))
          have HCELL := Lib.hid HO4.out.cells
          have kb : (k2 : Int) ≤ 18 := by have := HK3.out; omega
          clear hb4 ho4 p1 p2 p3 p4 D3 DB3 B3
          generalize X + H = T at *
          have hown0 : w4.ownsRow w4.heap.size 5 1 (.slice none 0 0) 0 (vls (nbs 0 T)) := World.ownsRow_nil _ _ _ _
          have HOWN0 := Lib.hid hown0
          clear hown0
          go_wp2_with fail
          obtain ⟨wo, rfl⟩ : ∃ wo : World, wo = w4 := ⟨_, rfl⟩
          go_loopw [10, 11] (fun v i wr => ∃ j : Nat, j ≤ 16 ∧ i = .int .i64 (j : Int) ∧ wr.ownsRow wo.heap.size 5 1 v j (vls (nbs j T)) ∧ Below wo.heap.size wo wr) (fun _ i _ => 16 - (intOf i).toNat)
          case atStart => exact ⟨0, by omega, rfl, HOWN0.out, Below.refl _ _⟩
          case round =>
            obtain ⟨j, hj, rfl, ho, hb⟩ := hrel
            have HO := Lib.hid ho
            have HBB := Lib.hid hb
            have HJ := Lib.hid hj
            have hs0 : _ ≤ wr.heap.size := hb.size
            clear ho hb hj HOWN0
            by_cases hlt : j < 16
            · have m1 : (j : Int) < 16 := by omega
              have m0 : (0 : Int) ≤ (j : Int) := by omega
              have m2 : (j : Int) < k2 := by have := HK2.out; omega
              have HLT := Lib.hid hlt
              have ca := HCELL.out wr HBB.out j (by have := HK2.out; omega)
              have hx := dig_lt 256 (by decide) T j
              have HTB := Lib.hid (tag_bytes T j)
              obtain ⟨d, hd⟩ : ∃ d, d = T / 256 ^ j % 256 := ⟨_, rfl⟩
              rw [← hd] at ca hx HTB
              clear hd
              have d0 : (0 : Int) ≤ (d : Int) := by omega
              have d1 : (d : Int) < 256 := by omega
              have HVB := Lib.hid (show valB (UInt8.ofNat d) = .int .u8 (d : Int) by
                rw [valB, UInt8.toNat_ofNat', show d % 2 ^ 8 = d by omega])
              have HAL := Lib.hid (HO.out.alloc (.cells #[.int .u8 (d : Int)] 5 (0, 0)))
              have HML := Lib.hid (show j + 1 ≤ maxLen by unfold maxLen; omega)
              have HMB := Lib.hid (show (j + 1) * 1 ≤ 140737488355328 by omega)
              clear hx hlt
              go_wp2_with (at_builtin; refine wpList_append_own _ rfl (.tmp 91) (.tmp 94) 37 rfl _ 5 i8 (.int .u8 0) 1 1 Try.underlying37 hj0 hy0 hy1 hy2 rfl (by decide) _ _ _ rfl HAL.out ⟨wr.heap.size, 0, none⟩ 1 1 [.int .u8 (d : Int)] rfl rfl (one_cell wr _ _) (one_one _ rfl) HML.out HMB.out (le_alloc hs0 _) ?_)
              intro v5 w5 h1 h2 h3
              have HB5 := Lib.hid (below_app HBB.out _ _ _ _ _ HO.out h2)
              have HO5 := Lib.hid (show w5.ownsRow wo.heap.size 5 1 v5 (j + 1) (vls (nbs (j + 1) T)) from by rw [HTB.out, vls_app, HVB.out]; exact h1)
              clear h1 h2 h3 hs0
              go_wp2_with fail
              go_roundw
              case rel => exact ⟨j + 1, HLT.out, by go_num, HO5.out, HB5.out⟩
              case measure => simp [intOf]; have := HLT.out; omega
            · have m1 : ¬ (j : Int) < 16 := by omega
              have hj16 : j = 16 := by have := HJ.out; omega
              subst hj16
              obtain ⟨g5, c5, rfl, -, -⟩ := HO.out.form (by decide)
              have hconv := conv_out (nbs 16 T) 16 (length_nbs 16 T) HO.out
              have HFIN := Lib.hid (B4.out.trans (HBB.out.mono B4.out.size))
              clear hlt hs0
              go_wp2_with fail
              go_ret
              exact ⟨by rw [HR.out]; rfl, HFIN.out⟩
end Go.Proofs.Ytkfacnegfkgcgaa

/-
  mailsackref07: fill, size, Tag: the walks.
-/
namespace Go.Proofs.Ytkfacnegfkgcgaa
open Go.RowKit MS

theorem cell_newA (w : World) (x : Value) (T : TypeId) : (w.alloc (.cells #[x] T (0, 0))).cell? ⟨w.heap.size, 0, none⟩ = some x := cell_of_row _ _ _ _ _ _ (MapKept.heap_alloc _ _).1

set_option maxRecDepth 100000 in
set_option maxHeartbeats 1000000 in
theorem rfill_any (s : ByteArray) (w : World) (hs : s.size ≤ 30000) :
    Calls Try.prog 59 #[.string s] w fun e w' => e = .returned (.string (bs (alignL (ls s)))) ∧ Below w.heap.size w w' := by
  obtain ⟨i8, hj0, hy0, hy1, hy2⟩ : ∃ i, Try.prog.info? 5 = some i ∧ i.zero = some (.int .u8 0) ∧ i.size = 1 ∧ i.bytes = 1 := ⟨_, rfl, rfl, rfl, rfl⟩
  have HS := Lib.hid hs
  have HL := Lib.hid (length_ls s)
  have HZ := Lib.hid (alZ_le s.size)
  have HM := Lib.hid (alZ_mod s.size)
  have HAL := Lib.hid (show alignL (ls s) = ls s ++ List.replicate (alZ s.size) 0 by rw [alignL, length_ls])
  have HML := Lib.hid (show s.size ≤ maxLen by unfold maxLen; omega)
  clear hs
  go_enter Try.func59, Try.ntmps59
  go_wp2_with (refine wpList_conv_own rfl (.tmp 4) 9 37 5 rfl s rfl Try.underlying9 Try.underlying37 Try.underlying5 w.heap.size s.size rfl (Nat.le_refl _) HML.out ?_)
  intro g0 cap0 w1 h1 h2
  have HO0 := Lib.hid (show ownsF w1 w.heap.size 5 (.slice (some ⟨g0, 0, none⟩) s.size cap0) (s.size + 0) (vls (ls s ++ List.replicate 0 0)) from by rw [List.replicate_zero, List.append_nil]; exact h1)
  have HB0 := Lib.hid h2
  clear h1 h2
  go_wp2_with fail
  go_loopw [3] (fun v wr => ∃ k : Nat, k ≤ alZ s.size ∧ ownsF wr w.heap.size 5 v (s.size + k) (vls (ls s ++ List.replicate k 0)) ∧ Below w.heap.size w wr) (fun v _ => 1000000 - lenA v)
  case atStart => exact ⟨0, Nat.zero_le _, HO0.out, HB0.out⟩
  case round =>
    obtain ⟨k, hk, ho, hb⟩ := hrel
    obtain ⟨g, cap, rfl, hnc, hcm, hgl⟩ := ho.form
    have HO := Lib.hid ho
    have HB := Lib.hid hb
    have HK := Lib.hid hk
    have hs0 : w.heap.size ≤ wr.heap.size := hb.size
    have hm := HM.out k hk
    have HQB := Lib.hid (show s.size + k ≤ 40000 by have := HS.out; have := HZ.out; omega)
    clear ho hb hk HO0 HB0 hnc hcm hgl
    by_cases hlt : k = alZ s.size
    · have m0 : (s.size + k) % 16 = 0 := hm.2 hlt
      have hcv := ownsF_conv (P := Try.prog) wr w.heap.size 37 9 5 Try.underlying37 Try.underlying5 Try.underlying9 (l := ls s ++ List.replicate k 0) HO.out 0 (s.size + k) cap (by omega)
      have e1 : ((ls s ++ List.replicate k 0).drop 0).take (s.size + k) = alignL (ls s) := by
        rw [List.drop_zero, List.take_of_length_le (by rw [List.length_append, List.length_replicate, HL.out]; exact Nat.le_refl _), HAL.out, hlt]
      rw [e1] at hcv
      have m1 : ¬ ((s.size + k : Nat) : Int) % 16 > 0 := by omega
      clear hm hlt m0 HM e1
      generalize s.size + k = q at *
      go_wp2_with fail
      go_ret
      exact ⟨rfl, HB.out⟩
    · have m0 : (s.size + k) % 16 ≠ 0 := fun h => hlt (hm.1 h)
      have m1 : ((s.size + k : Nat) : Int) % 16 > 0 := by omega
      have HLT := Lib.hid hlt
      obtain ⟨q, hq⟩ : ∃ q, s.size + k = q := ⟨_, rfl⟩
      rw [hq] at m1 HO HQB ⊢
      have HQ := Lib.hid hq
      have HA := Lib.hid (HO.out.alloc (.cells #[.int .u8 0] 5 (0, 0)))
      have HN := Lib.hid (show q + 1 ≤ 140737488355328 by have := HQB.out; omega)
      clear hm hlt m0 hq HM
      go_wp2_with (at_builtin; refine wpList_append_f _ rfl (.tmp 10) (.tmp 11) 37 rfl w.heap.size 5 i8 (.int .u8 0) Try.underlying37 hj0 hy0 hy1 hy2 rfl (.slice (some ⟨g, 0, none⟩) q cap) q (vls (ls s ++ List.replicate k 0)) rfl HA.out ⟨wr.heap.size, 0, none⟩ 1 (.int .u8 0) rfl (cell_newA _ _ _) rfl HN.out (le_alloc hs0 _) ?_)
      intro v2 w2 h1 h2
      have HB2 := Lib.hid ((below_alloc HB.out (.cells #[.int .u8 0] 5 (0, 0))).grown h2 (by rw [World.size_alloc]; omega) (fun m hm => (HO.out.lt m hm).1))
      have HO2 := Lib.hid (show ownsF w2 w.heap.size 5 v2 (s.size + (k + 1)) (vls (ls s ++ List.replicate (k + 1) 0)) from by rw [zeros_app, vls_app, ← Nat.add_assoc, HQ.out]; exact h1)
      have HLEN := Lib.hid (show lenA v2 = q + 1 from by
        obtain ⟨g, cap, e, _⟩ := h1.form
        rw [e]; rfl)
      clear h1 h2 hs0
      go_wp2_with fail
      go_roundw
      case rel => exact ⟨k + 1, by have := HLT.out; have := HK.out; omega, HO2.out, HB2.out⟩
      case measure => rw [HLEN.out]; show 1000000 - (q + 1) < 1000000 - q; have := HQB.out; omega

set_option maxRecDepth 100000 in
set_option maxHeartbeats 1000000 in
theorem rsize_any (s : ByteArray) (w : World) (hs : s.size ≤ 30000) :
    Calls Try.prog 60 #[.string s] w fun e w' => e = .returned (.string (bs (nbs 8 s.size))) ∧ Below w.heap.size w w' := by
  obtain ⟨i8, hj0, hy0, hy1, hy2⟩ : ∃ i, Try.prog.info? 5 = some i ∧ i.zero = some (.int .u8 0) ∧ i.size = 1 ∧ i.bytes = 1 := ⟨_, rfl, rfl, rfl, rfl⟩
  have HNB := Lib.hid (nbs_next s.size)
  have HDIV := Lib.hid (fun j => show s.size / 256 ^ (j + 1) = s.size / 256 ^ j / 256 from by rw [Nat.pow_succ, Nat.div_div_eq_div_mul])
  have HLE := Lib.hid (fun j => show s.size / 256 ^ j ≤ 30000 from Nat.le_trans (Nat.div_le_self _ _) hs)
  have HO0 := Lib.hid (show w.ownsRow w.heap.size 5 1 (.slice none 0 0) 0 (vls (nbs 0 s.size)) from World.ownsRow_nil _ _ _ _)
  have H0 := Lib.hid (show s.size = s.size / 256 ^ 0 by rw [Nat.pow_zero, Nat.div_one])
  obtain ⟨m, hm⟩ : ∃ m, s.size = m := ⟨_, rfl⟩
  have m1 : (s.size : Int) = (m : Int) := by omega
  rw [hm] at HNB HDIV HLE HO0 H0 ⊢
  have m2 : (m : Int) ≤ 30000 := by omega
  clear hs hm
  go_enter Try.func60, Try.ntmps60
  go_wp2_with fail
  go_loopw [3, 4, 5] (fun x v i wr => ∃ j : Nat, j ≤ 8 ∧ i = .int .i64 j ∧ x = .int .i64 (m / 256 ^ j : Nat) ∧ wr.ownsRow w.heap.size 5 1 v j (vls (nbs j m)) ∧ Below w.heap.size w wr) (fun _ _ i _ => 8 - (intOf i).toNat)
  case atStart => exact ⟨0, by omega, rfl, by rw [← H0.out], HO0.out, Below.refl _ _⟩
  case round =>
    obtain ⟨j, hj, rfl, rfl, ho, hb⟩ := hrel
    have HO := Lib.hid ho
    have HB := Lib.hid hb
    have hs0 : w.heap.size ≤ wr.heap.size := hb.size
    clear ho hb HO0
    by_cases hlt : j < 8
    · have j1 : (j : Int) < 8 := by omega
      have j0 : (0 : Int) ≤ (j : Int) := by omega
      have HLT := Lib.hid hlt
      have HNX := Lib.hid (HNB.out j)
      have HDX := Lib.hid (HDIV.out j)
      have hle := HLE.out j
      obtain ⟨x, hx⟩ : ∃ x, m / 256 ^ j = x := ⟨_, rfl⟩
      rw [hx] at hle HNX HDX ⊢
      have x1 : (x : Int) ≤ 30000 := by omega
      have x0 : (0 : Int) ≤ (x : Int) := by omega
      have HVB := Lib.hid (show valB (UInt8.ofNat (x % 256)) = .int .u8 ((x : Int) % 256) by rw [valB, UInt8.toNat_ofNat', show x % 256 % 2 ^ 8 = x % 256 by omega]; rfl)
      have HML := Lib.hid (show j + 1 ≤ maxLen by unfold maxLen; omega)
      have HMB := Lib.hid (show (j + 1) * 1 ≤ 140737488355328 by omega)
      have HAL := Lib.hid (HO.out.alloc (.cells #[.int .u8 ((x : Int) % 256)] 5 (0, 0)))
      clear hlt hj hx hle
      go_wp2_with (at_builtin; refine wpList_append_own _ rfl (.tmp 12) (.tmp 16) 37 rfl _ 5 i8 (.int .u8 0) 1 1 Try.underlying37 hj0 hy0 hy1 hy2 rfl (by decide) _ _ _ rfl HAL.out ⟨wr.heap.size, 0, none⟩ 1 1 [.int .u8 ((x : Int) % 256)] rfl rfl (one_cell wr _ _) (one_one _ rfl) HML.out HMB.out (le_alloc hs0 _) ?_)
      intro v1 w1 h1 h2 h3
      have HB1 := Lib.hid (below_app HB.out _ _ _ _ _ HO.out h2)
      have HO1 := Lib.hid (show w1.ownsRow w.heap.size 5 1 v1 (j + 1) (vls (nbs (j + 1) m)) from by rw [HNX.out, vls_app, HVB.out]; exact h1)
      clear h1 h2 h3 hs0
      go_wp2_with fail
      go_roundw
      case rel => exact ⟨j + 1, HLT.out, by go_num, by rw [HDX.out]; go_num, HO1.out, HB1.out⟩
      case measure => simp [intOf]; have := HLT.out; omega
    · have j1 : ¬ (j : Int) < 8 := by omega
      have hj8 : j = 8 := by omega
      subst hj8
      clear hlt hj
      obtain ⟨g5, c5, rfl, -, -⟩ := HO.out.form (by decide)
      have hcv := conv_out (nbs 8 m) 8 (length_nbs 8 m) HO.out
      go_wp2_with fail
      go_ret
      exact ⟨rfl, HB.out⟩

set_option maxRecDepth 100000 in
set_option maxHeartbeats 2000000 in
theorem rtagA_any (k n wi text : ByteArray) (w : World) (hk : k.size = 32) (hn : n.size = 12) (hwi : wi.size ≤ 20000) (htx : text.size ≤ 20000) :
    Calls Try.prog 49 #[.string k, .string n, .string wi, .string text] w fun e w' => e = .returned (.string (tagA k n wi text)) ∧ Below w.heap.size w w' := by
  have B := Lib.hid (fun w => rblock k n 0 w hk hn)
  rw [wv0] at B
  have F1 := Lib.hid (fun w => rfill_any wi w (by omega))
  have F2 := Lib.hid (fun w => rfill_any text w (by omega))
  have S1 := Lib.hid (fun w => rsize_any wi w (by omega))
  have S2 := Lib.hid (fun w => rsize_any text w (by omega))
  have z1 := alZ_le wi.size
  have z2 := alZ_le text.size
  have e1 : (bs (alignL (ls wi))).size = wi.size + alZ wi.size := by rw [size_bs, length_alignL, length_ls]
  have e2 : (bs (alignL (ls text))).size = text.size + alZ text.size := by rw [size_bs, length_alignL, length_ls]
  have e3 : (bs (nbs 8 wi.size)).size = 8 := by rw [size_bs, length_nbs]
  have e4 : (bs (nbs 8 text.size)).size = 8 := by rw [size_bs, length_nbs]
  have HE := Lib.hid (show bs (alignL (ls wi)) ++ bs (alignL (ls text)) ++ bs (nbs 8 wi.size) ++ bs (nbs 8 text.size) = bs (tagL (ls wi) (ls text)) by
    rw [bs_append, bs_append, bs_append, tagL, length_ls, length_ls])
  have R := Lib.hid (fun w => rtag_any ((blkB (iw k n 0)).extract 0 32) (bs (alignL (ls wi)) ++ bs (alignL (ls text)) ++ bs (nbs 8 wi.size) ++ bs (nbs 8 text.size)) w (by rw [ByteArray.size_extract, size_blkB]; rfl) (by
    rw [ByteArray.size_append, ByteArray.size_append, ByteArray.size_append]; omega))
  have HT := Lib.hid (show tagB ((blkB (iw k n 0)).extract 0 32) (bs (alignL (ls wi)) ++ bs (alignL (ls text)) ++ bs (nbs 8 wi.size) ++ bs (nbs 8 text.size)) = tagA k n wi text by rw [HE.out]; rfl)
  rw [HT.out] at R
  have b1 : ((bs (alignL (ls wi))).size : Int) ≤ 30000 := by omega
  have b2 : ((bs (alignL (ls text))).size : Int) ≤ 30000 := by omega
  have b3 : ((bs (nbs 8 wi.size)).size : Int) = 8 := by omega
  have b4 : ((bs (nbs 8 text.size)).size : Int) = 8 := by omega
  have b5 : ((blkB (iw k n 0)).size : Int) = 64 := by rw [size_blkB]; rfl
  generalize tagA k n wi text = T at *
  generalize blkB (iw k n 0) = bk at *
  generalize bs (alignL (ls wi)) = x1 at *
  generalize bs (alignL (ls text)) = x2 at *
  generalize bs (nbs 8 wi.size) = x3 at *
  generalize bs (nbs 8 text.size) = x4 at *
  have n1 : x1.size + x2.size ≤ 9223372036854775807 := by omega
  have n2 : (x1 ++ x2).size + x3.size ≤ 9223372036854775807 := by rw [ByteArray.size_append]; omega
  have n3 : (x1 ++ x2 ++ x3).size + x4.size ≤ 9223372036854775807 := by rw [ByteArray.size_append, ByteArray.size_append]; omega
  clear hk hn hwi htx z1 z2 e1 e2 e3 e4 HE HT
  go_enter Try.func49, Try.ntmps49
  go_wp2_with fail
  obtain ⟨W, rfl⟩ : ∃ W : World, W = w := ⟨_, rfl⟩
  refine wp_region_below (by kernel_rfl) (by kernel_rfl) ?_
  repeat (go_big_quiet_step (fail))
  go_big_quiet_step (exact calls_below (B.out _))
  repeat (go_big_quiet_step (fail))
  go_big_quiet_step (exact calls_below (F1.out _))
  repeat (go_big_quiet_step (fail))
  go_big_quiet_step (exact calls_below (F2.out _))
  repeat (go_big_quiet_step (fail))
  go_big_quiet_step (exact calls_below (S1.out _))
  repeat (go_big_quiet_step (fail))
  go_big_quiet_step (exact calls_below (S2.out _))
  repeat (go_big_quiet_step (fail))
  go_big_quiet_step (exact calls_below (R.out _))
  repeat (go_big_quiet_step (fail))
  refine wpQuiet_nil ?_
  rintro _ ⟨p, rfl⟩
  have B9 := Lib.hid p.2
  generalize p.1 = w9 at B9 ⊢
  go_wp2_with fail
  go_ret
  exact ⟨rfl, B9.out⟩
end Go.Proofs.Ytkfacnegfkgcgaa

/-
  mailsackref07: Seal, Open; mailsacklaw07.awake: the walks.
-/
namespace Go.Proofs.Ytkfacnegfkgcgaa
open Go.RowKit MS

set_option maxRecDepth 100000 in
set_option maxHeartbeats 1000000 in
theorem rsealA_any (k n wi s : ByteArray) (w : World) (hk : k.size = 32) (hn : n.size = 12) (hwi : wi.size ≤ 10000) (hs : s.size ≤ 10000) :
    Calls Try.prog 30 #[.string k, .string n, .string wi, .string s] w fun e w' => e = .returned (.string (sealA k n wi s)) ∧ Below w.heap.size w w' := by
  have T := Lib.hid (fun w => rturn k n 1 s w hk hn hs)
  rw [wv1, show bs (trn (ls s) (ks k n 1)) = trnA k n s from rfl] at T
  have G := Lib.hid (fun w => rtagA_any k n wi (trnA k n s) w hk hn (by omega) (by rw [size_trnA]; omega))
  have HS := Lib.hid (show sealA k n wi s = trnA k n s ++ tagA k n wi (trnA k n s) from rfl)
  have s1 : ((tagA k n wi (trnA k n s)).size : Int) = 16 := by rw [size_tagA]; rfl
  have s2 : ((trnA k n s).size : Int) ≤ 20000 := by rw [size_trnA]; omega
  rw [HS.out]
  generalize tagA k n wi (trnA k n s) = t at *
  generalize trnA k n s = x at *
  clear hk hn hwi hs HS
  go_enter Try.func30, Try.ntmps30
  go_wp2_with fail
  refine (T.out _).mono ?_
  rintro e w1 ⟨rfl, hb1⟩
  have B1 := Lib.hid hb1
  clear hb1
  go_wp2_with fail
  refine (G.out _).mono ?_
  rintro e w2 ⟨rfl, hb2⟩
  have B2 := Lib.hid (B1.out.trans (hb2.mono B1.out.size))
  clear hb2
  go_wp2_with fail
  go_ret
  exact ⟨rfl, B2.out⟩

theorem toList_ne {a b : ByteArray} (h : a ≠ b) : (a.toList == b.toList) = false := by
  rw [beq_eq_false_iff_ne]
  intro e
  apply h
  apply ls_inj
  rw [ByteArray.toList_eq, ByteArray.toList_eq] at e
  exact e
def ropenV (o : Option ByteArray) : Value := match o with
  | some s => .tuple #[.string s, .bool true]
  | none => .tuple #[.string ⟨#[]⟩, .bool false]

set_option maxRecDepth 100000 in
set_option maxHeartbeats 2000000 in
theorem ropenA_any (k n wi box : ByteArray) (w : World) (hk : k.size = 32) (hn : n.size = 12) (hwi : wi.size ≤ 10000) (hs : box.size ≤ 10000) :
    Calls Try.prog 32 #[.string k, .string n, .string wi, .string box] w fun e w' => e = .returned (ropenV (openA k n wi box)) ∧ Below w.heap.size w w' := by
  by_cases h16 : box.size < 16
  · have HO := Lib.hid (show ropenV (openA k n wi box) = .tuple #[.string ⟨#[]⟩, .bool false] by rw [openA, if_pos h16]; rfl)
    have q0 : (box.size : Int) - 16 < 0 := by omega
    have q1 : (0 : Int) ≤ (box.size : Int) := by omega
    rw [HO.out]
    clear hk hn hwi hs h16
    go_enter Try.func32, Try.ntmps32
    go_upto_region 2 with fail
    refine wp_region_below (by kernel_rfl) (by kernel_rfl) ?_
    repeat (go_big_quiet_step (fail))
    refine wpQuiet_nil ?_
    rintro _ ⟨p, rfl⟩
    have B9 := Lib.hid p.2
    generalize p.1 = w9 at B9 ⊢
    go_wp2_with fail
    go_ret2
    exact ⟨rfl, B9.out⟩
  · have HO := Lib.hid (show openA k n wi box = if tagA k n wi (box.extract 0 (box.size - 16)) = box.extract (box.size - 16) box.size then some (trnA k n (box.extract 0 (box.size - 16))) else none by rw [openA, if_neg h16])
    obtain ⟨m, hm⟩ : ∃ m, box.size - 16 = m := ⟨_, rfl⟩
    rw [hm] at HO
    have hx : (box.extract 0 m).size = m := by rw [ByteArray.size_extract]; omega
    have T := Lib.hid (fun w => rturn k n 1 (box.extract 0 m) w hk hn (by omega))
    rw [wv1, show bs (trn (ls (box.extract 0 m)) (ks k n 1)) = trnA k n (box.extract 0 m) from rfl] at T
    have G := Lib.hid (fun w => rtagA_any k n wi (box.extract 0 m) w hk hn (by omega) (by omega))
    have e0 : (box.size : Int) - 16 = (m : Int) := by omega
    have e2 : (0 : Int) ≤ (m : Int) := by omega
    have e3 : (m : Int) ≤ (box.size : Int) := by omega
    have e4 : (box.size : Int) ≤ 20000 := by omega
    have e5 : ¬ (m : Int) < 0 := by omega
    generalize trnA k n (box.extract 0 m) = x at *
    have HOV := Lib.hid (show ropenV (openA k n wi box) = if tagA k n wi (box.extract 0 m) = box.extract m box.size then .tuple #[.string x, .bool true] else .tuple #[.string ⟨#[]⟩, .bool false] by rw [HO.out]; split <;> rfl)
    generalize tagA k n wi (box.extract 0 m) = tg at *
    obtain ⟨xt, hxt⟩ : ∃ t, box.extract m box.size = t := ⟨_, rfl⟩
    rw [hxt] at HOV
    clear hk hn hwi hs h16 hm hx HO
    go_enter Try.func32, Try.ntmps32
    go_upto_region 2 with fail
    clear e0
    by_cases ht : tg = xt
    · have HO2 := Lib.hid (show ropenV (openA k n wi box) = .tuple #[.string x, .bool true] by rw [HOV.out, if_pos ht])
      subst ht
      refine wp_region_below (by kernel_rfl) (by kernel_rfl) ?_
      repeat (go_big_quiet_step (fail))
      go_big_quiet_step (exact calls_below (G.out _))
      repeat (go_big_quiet_step (fail))
      refine wpQuiet_nil ?_
      rintro _ ⟨p, rfl⟩
      have B9 := Lib.hid p.2
      generalize p.1 = w9 at B9 ⊢
      go_wp2_with fail
      refine (T.out _).mono ?_
      rintro e w3 ⟨rfl, hb3⟩
      have B3 := Lib.hid (B9.out.trans (hb3.mono B9.out.size))
      clear hb3
      go_wp2_with fail
      go_ret2
      exact ⟨by rw [HO2.out]; rfl, B3.out⟩
    · have HO2 := Lib.hid (show ropenV (openA k n wi box) = .tuple #[.string ⟨#[]⟩, .bool false] by rw [HOV.out, if_neg ht])
      have tb := toList_ne ht
      refine wp_region_below (by kernel_rfl) (by kernel_rfl) ?_
      repeat (go_big_quiet_step (fail))
      go_big_quiet_step (exact calls_below (G.out _))
      repeat (go_big_quiet_step (fail))
      refine wpQuiet_nil ?_
      rintro _ ⟨p, rfl⟩
      have B9 := Lib.hid p.2
      generalize p.1 = w9 at B9 ⊢
      go_wp2_with fail
      go_ret2
      exact ⟨by rw [HO2.out]; rfl, B9.out⟩

def akey : ByteArray := ⟨#[48, 49, 50, 51, 52, 53, 54, 55, 56, 57, 97, 98, 99, 100, 101, 102, 48, 49, 50, 51, 52, 53, 54, 55, 56, 57, 97, 98, 99, 100, 101, 102]⟩
def anonce : ByteArray := ⟨#[48, 49, 50, 51, 52, 53, 54, 55, 56, 57, 97, 98]⟩
def awith : ByteArray := ⟨#[119, 105, 116, 104]⟩
def atext : ByteArray := ⟨#[116, 101, 120, 116]⟩

set_option maxRecDepth 100000 in
set_option maxHeartbeats 1000000 in
theorem awake07_any (w : World) :
    Calls Try.prog 28 #[] w fun e w' => e = .returned (.bool true) ∧ Below w.heap.size w w' := by
  have S := Lib.hid (fun w => aseal_yes akey anonce awith atext w rfl rfl (by decide) (by decide))
  have hz := size_sealA akey anonce awith atext
  have O := Lib.hid (fun w => aopen_any akey anonce awith (sealA akey anonce awith atext) w rfl rfl (by decide) (by rw [hz]; decide))
  rw [open_seal, show openV (some atext) = .tuple #[.string atext, .int .i64 0] from rfl] at O
  have hx : ((sealA akey anonce awith atext).extract 0 3).size = 3 := by rw [ByteArray.size_extract, hz]; rfl
  have P := Lib.hid (fun w => aopen_any akey anonce ⟨#[]⟩ ((sealA akey anonce awith atext).extract 0 3) w rfl rfl (by decide) (by rw [hx]; decide))
  rw [show openA akey anonce ⟨#[]⟩ ((sealA akey anonce awith atext).extract 0 3) = none from by rw [openA, if_pos (by rw [hx]; decide)], show openV none = .tuple #[.string ⟨#[]⟩, .int .i64 7] from rfl] at P
  have bz : ((sealA akey anonce awith atext).size : Int) = 20 := by rw [hz]; rfl
  generalize sealA akey anonce awith atext = b at *
  have q1 : (if (3 : Int) < (b.size : Int) then (3 : Int) else (b.size : Int)) = 3 := if_pos (by omega)
  have q2 : (3 : Int) ≤ (b.size : Int) := by omega
  unfold akey anonce awith atext at S
  unfold akey anonce awith atext at O
  unfold akey anonce at P
  clear hz hx
  go_enter Try.func28, Try.ntmps28
  go_wp2_with fail
  refine (S.out _).mono ?_
  rintro e w1 ⟨rfl, hb1⟩
  have B1 := Lib.hid hb1
  clear hb1
  go_wp2_with fail
  refine (O.out _).mono ?_
  rintro e w2 ⟨rfl, hb2⟩
  have B2 := Lib.hid (B1.out.trans (hb2.mono B1.out.size))
  clear hb2
  go_wp2_with fail
  refine (P.out _).mono ?_
  rintro e w3 ⟨rfl, hb3⟩
  have B3 := Lib.hid (B2.out.trans (hb3.mono B2.out.size))
  clear hb3
  go_wp2_with fail
  go_ret
  exact ⟨rfl, B3.out⟩
end Go.Proofs.Ytkfacnegfkgcgaa

/-
  mailsacklaw07: the walks of the laws.
-/
namespace Go.Proofs.Ytkfacnegfkgcgaa
open Go.RowKit MS

set_option maxRecDepth 100000 in
set_option maxHeartbeats 2000000 in
theorem aeadseals_any (k n wi s : ByteArray) (w : World) :
    Calls Try.prog 13 #[.string k, .string n, .string wi, .string s] w fun e w' => e = .returned (.bool true) ∧ Below w.heap.size w w' := by
  have A := Lib.hid (fun w => awake07_any w)
  by_cases hg1 : k.size > 100
  · have tg1 : (k.size : Int) > 100 := by omega
    clear hg1
    go_enter Try.func13, Try.ntmps13
    go_wp2_with fail
    refine (A.out _).mono ?_
    rintro e w1 ⟨rfl, hb1⟩
    go_wp2_with fail
    go_ret
    exact ⟨rfl, hb1⟩
  · have tg1 : ¬ (k.size : Int) > 100 := by omega
    by_cases hg2 : n.size > 100
    · have tg2 : (n.size : Int) > 100 := by omega
      clear hg1 hg2
      go_enter Try.func13, Try.ntmps13
      go_wp2_with fail
      refine (A.out _).mono ?_
      rintro e w1 ⟨rfl, hb1⟩
      go_wp2_with fail
      go_ret
      exact ⟨rfl, hb1⟩
    · have tg2 : ¬ (n.size : Int) > 100 := by omega
      by_cases hg3 : wi.size > 512
      · have tg3 : (wi.size : Int) > 512 := by omega
        clear hg1 hg2 hg3
        go_enter Try.func13, Try.ntmps13
        go_wp2_with fail
        refine (A.out _).mono ?_
        rintro e w1 ⟨rfl, hb1⟩
        go_wp2_with fail
        go_ret
        exact ⟨rfl, hb1⟩
      · have tg3 : ¬ (wi.size : Int) > 512 := by omega
        by_cases hg4 : s.size > 512
        · have tg4 : (s.size : Int) > 512 := by omega
          clear hg1 hg2 hg3 hg4
          go_enter Try.func13, Try.ntmps13
          go_wp2_with fail
          refine (A.out _).mono ?_
          rintro e w1 ⟨rfl, hb1⟩
          go_wp2_with fail
          go_ret
          exact ⟨rfl, hb1⟩
        · have tg4 : ¬ (s.size : Int) > 512 := by omega
          by_cases hk : k.size = 32
          · have tk : ((k.size : Int) != 32) = false := by simp; omega
            by_cases hn : n.size = 12
            · have tn : ((n.size : Int) != 12) = false := by simp; omega
              have Y := Lib.hid (fun w => aseal_yes k n wi s w hk hn (by omega) (by omega))
              have R := Lib.hid (fun w => rsealA_any k n wi s w hk hn (by omega) (by omega))
              generalize sealA k n wi s = T at *
              clear hg1 hg2 hg3 hg4 hk hn
              go_enter Try.func13, Try.ntmps13
              go_wp2_with fail
              refine (Y.out _).mono ?_
              rintro e w1 ⟨rfl, hb⟩
              have B1 := Lib.hid hb
              clear hb
              go_wp2_with fail
              refine (R.out _).mono ?_
              rintro e w2 ⟨rfl, hb⟩
              have B2 := Lib.hid (B1.out.trans (hb.mono B1.out.size))
              clear hb
              go_wp2_with fail
              refine (A.out _).mono ?_
              rintro e w3 ⟨rfl, hb⟩
              have B3 := Lib.hid (B2.out.trans (hb.mono B2.out.size))
              clear hb
              go_wp2_with fail
              go_ret
              exact ⟨rfl, B3.out⟩
            · have tn : ((n.size : Int) != 12) = true := by simp; omega
              have N := Lib.hid (fun w => aseal_no k n wi s w (.inr hn))
              clear hg1 hg2 hg3 hg4 hk hn
              go_enter Try.func13, Try.ntmps13
              go_wp2_with fail
              refine (N.out _).mono ?_
              rintro e w1 ⟨rfl, hb⟩
              have B1 := Lib.hid hb
              clear hb
              go_wp2_with fail
              refine (A.out _).mono ?_
              rintro e w2 ⟨rfl, hb⟩
              have B2 := Lib.hid (B1.out.trans (hb.mono B1.out.size))
              clear hb
              go_wp2_with fail
              go_ret
              exact ⟨rfl, B2.out⟩
          · have tk : ((k.size : Int) != 32) = true := by simp; omega
            have N := Lib.hid (fun w => aseal_no k n wi s w (.inl hk))
            clear hg1 hg2 hg3 hg4 hk
            go_enter Try.func13, Try.ntmps13
            go_wp2_with fail
            refine (N.out _).mono ?_
            rintro e w1 ⟨rfl, hb⟩
            have B1 := Lib.hid hb
            clear hb
            go_wp2_with fail
            refine (A.out _).mono ?_
            rintro e w2 ⟨rfl, hb⟩
            have B2 := Lib.hid (B1.out.trans (hb.mono B1.out.size))
            clear hb
            go_wp2_with fail
            go_ret
            exact ⟨rfl, B2.out⟩

set_option maxRecDepth 100000 in
set_option maxHeartbeats 2000000 in
theorem aeadopens_any (k n wi box : ByteArray) (w : World) :
    Calls Try.prog 14 #[.string k, .string n, .string wi, .string box] w fun e w' => e = .returned (.bool true) ∧ Below w.heap.size w w' := by
  have A := Lib.hid (fun w => awake07_any w)
  by_cases hg1 : k.size > 100
  · have tg1 : (k.size : Int) > 100 := by omega
    clear hg1
    go_enter Try.func14, Try.ntmps14
    go_wp2_with fail
    refine (A.out _).mono ?_
    rintro e w1 ⟨rfl, hb1⟩
    go_wp2_with fail
    go_ret
    exact ⟨rfl, hb1⟩
  · have tg1 : ¬ (k.size : Int) > 100 := by omega
    by_cases hg2 : n.size > 100
    · have tg2 : (n.size : Int) > 100 := by omega
      clear hg1 hg2
      go_enter Try.func14, Try.ntmps14
      go_wp2_with fail
      refine (A.out _).mono ?_
      rintro e w1 ⟨rfl, hb1⟩
      go_wp2_with fail
      go_ret
      exact ⟨rfl, hb1⟩
    · have tg2 : ¬ (n.size : Int) > 100 := by omega
      by_cases hg3 : wi.size > 512
      · have tg3 : (wi.size : Int) > 512 := by omega
        clear hg1 hg2 hg3
        go_enter Try.func14, Try.ntmps14
        go_wp2_with fail
        refine (A.out _).mono ?_
        rintro e w1 ⟨rfl, hb1⟩
        go_wp2_with fail
        go_ret
        exact ⟨rfl, hb1⟩
      · have tg3 : ¬ (wi.size : Int) > 512 := by omega
        by_cases hg4 : box.size > 512
        · have tg4 : (box.size : Int) > 512 := by omega
          clear hg1 hg2 hg3 hg4
          go_enter Try.func14, Try.ntmps14
          go_wp2_with fail
          refine (A.out _).mono ?_
          rintro e w1 ⟨rfl, hb1⟩
          go_wp2_with fail
          go_ret
          exact ⟨rfl, hb1⟩
        · have tg4 : ¬ (box.size : Int) > 512 := by omega
          by_cases hk : k.size = 32
          · have tk : ((k.size : Int) != 32) = false := by simp; omega
            by_cases hn : n.size = 12
            · have tn : ((n.size : Int) != 12) = false := by simp; omega
              have Y := Lib.hid (fun w => aopen_any k n wi box w hk hn (by omega) (by omega))
              have R := Lib.hid (fun w => ropenA_any k n wi box w hk hn (by omega) (by omega))
              generalize openA k n wi box = T at *
              clear hg1 hg2 hg3 hg4 hk hn
              cases T with
              | none =>
                rw [show openV none = .tuple #[.string ⟨#[]⟩, .int .i64 7] from rfl] at Y
                rw [show ropenV none = .tuple #[.string ⟨#[]⟩, .bool false] from rfl] at R
                go_enter Try.func14, Try.ntmps14
                go_wp2_with fail
                refine (Y.out _).mono ?_
                rintro e w1 ⟨rfl, hb⟩
                have B1 := Lib.hid hb
                clear hb
                go_wp2_with fail
                refine (R.out _).mono ?_
                rintro e w2 ⟨rfl, hb⟩
                have B2 := Lib.hid (B1.out.trans (hb.mono B1.out.size))
                clear hb
                go_wp2_with fail
                refine (A.out _).mono ?_
                rintro e w3 ⟨rfl, hb⟩
                have B3 := Lib.hid (B2.out.trans (hb.mono B2.out.size))
                clear hb
                go_wp2_with fail
                go_ret
                exact ⟨rfl, B3.out⟩
              | some x =>
                rw [show openV (some x) = .tuple #[.string x, .int .i64 0] from rfl] at Y
                rw [show ropenV (some x) = .tuple #[.string x, .bool true] from rfl] at R
                go_enter Try.func14, Try.ntmps14
                go_wp2_with fail
                refine (Y.out _).mono ?_
                rintro e w1 ⟨rfl, hb⟩
                have B1 := Lib.hid hb
                clear hb
                go_wp2_with fail
                refine (R.out _).mono ?_
                rintro e w2 ⟨rfl, hb⟩
                have B2 := Lib.hid (B1.out.trans (hb.mono B1.out.size))
                clear hb
                go_wp2_with fail
                refine (A.out _).mono ?_
                rintro e w3 ⟨rfl, hb⟩
                have B3 := Lib.hid (B2.out.trans (hb.mono B2.out.size))
                clear hb
                go_wp2_with fail
                go_ret
                exact ⟨rfl, B3.out⟩
            · have tn : ((n.size : Int) != 12) = true := by simp; omega
              have N := Lib.hid (fun w => aopen_no k n wi box w (.inr hn))
              clear hg1 hg2 hg3 hg4 hk hn
              go_enter Try.func14, Try.ntmps14
              go_wp2_with fail
              refine (N.out _).mono ?_
              rintro e w1 ⟨rfl, hb⟩
              have B1 := Lib.hid hb
              clear hb
              go_wp2_with fail
              refine (A.out _).mono ?_
              rintro e w2 ⟨rfl, hb⟩
              have B2 := Lib.hid (B1.out.trans (hb.mono B1.out.size))
              clear hb
              go_wp2_with fail
              go_ret
              exact ⟨rfl, B2.out⟩
          · have tk : ((k.size : Int) != 32) = true := by simp; omega
            have N := Lib.hid (fun w => aopen_no k n wi box w (.inl hk))
            clear hg1 hg2 hg3 hg4 hk
            go_enter Try.func14, Try.ntmps14
            go_wp2_with fail
            refine (N.out _).mono ?_
            rintro e w1 ⟨rfl, hb⟩
            have B1 := Lib.hid hb
            clear hb
            go_wp2_with fail
            refine (A.out _).mono ?_
            rintro e w2 ⟨rfl, hb⟩
            have B2 := Lib.hid (B1.out.trans (hb.mono B1.out.size))
            clear hb
            go_wp2_with fail
            go_ret
            exact ⟨rfl, B2.out⟩

set_option maxRecDepth 100000 in
set_option maxHeartbeats 2000000 in
theorem aeadagain_any (k n wi box : ByteArray) (w : World) :
    Calls Try.prog 16 #[.string k, .string n, .string wi, .string box] w fun e w' => e = .returned (.bool true) ∧ Below w.heap.size w w' := by
  have A := Lib.hid (fun w => awake07_any w)
  by_cases hg1 : wi.size > 4096
  · have tg1 : (wi.size : Int) > 4096 := by omega
    clear hg1
    go_enter Try.func16, Try.ntmps16
    go_wp2_with fail
    refine (A.out _).mono ?_
    rintro e w1 ⟨rfl, hb1⟩
    go_wp2_with fail
    go_ret
    exact ⟨rfl, hb1⟩
  · have tg1 : ¬ (wi.size : Int) > 4096 := by omega
    by_cases hg2 : box.size > 4096
    · have tg2 : (box.size : Int) > 4096 := by omega
      clear hg1 hg2
      go_enter Try.func16, Try.ntmps16
      go_wp2_with fail
      refine (A.out _).mono ?_
      rintro e w1 ⟨rfl, hb1⟩
      go_wp2_with fail
      go_ret
      exact ⟨rfl, hb1⟩
    · have tg2 : ¬ (box.size : Int) > 4096 := by omega
      by_cases hg3 : k.size > 100
      · have tg3 : (k.size : Int) > 100 := by omega
        clear hg1 hg2 hg3
        go_enter Try.func16, Try.ntmps16
        go_wp2_with fail
        refine (A.out _).mono ?_
        rintro e w1 ⟨rfl, hb1⟩
        go_wp2_with fail
        go_ret
        exact ⟨rfl, hb1⟩
      · have tg3 : ¬ (k.size : Int) > 100 := by omega
        by_cases hg4 : n.size > 100
        · have tg4 : (n.size : Int) > 100 := by omega
          clear hg1 hg2 hg3 hg4
          go_enter Try.func16, Try.ntmps16
          go_wp2_with fail
          refine (A.out _).mono ?_
          rintro e w1 ⟨rfl, hb1⟩
          go_wp2_with fail
          go_ret
          exact ⟨rfl, hb1⟩
        · have tg4 : ¬ (n.size : Int) > 100 := by omega
          by_cases hk : k.size = 32
          · have tk : ((k.size : Int) != 32) = false := by simp; omega
            by_cases hn : n.size = 12
            · have tn : ((n.size : Int) != 12) = false := by simp; omega
              have Y := Lib.hid (fun w => aopen_any k n wi box w hk hn (by omega) (by omega))
              cases hT : openA k n wi box with
              | none =>
                rw [hT, show openV none = .tuple #[.string ⟨#[]⟩, .int .i64 7] from rfl] at Y
                clear hg1 hg2 hg3 hg4 hk hn hT
                go_enter Try.func16, Try.ntmps16
                go_wp2_with fail
                refine (Y.out _).mono ?_
                rintro e w1 ⟨rfl, hb⟩
                have B1 := Lib.hid hb
                clear hb
                go_wp2_with fail
                refine (A.out _).mono ?_
                rintro e w2 ⟨rfl, hb⟩
                have B2 := Lib.hid (B1.out.trans (hb.mono B1.out.size))
                clear hb
                go_wp2_with fail
                go_ret
                exact ⟨rfl, B2.out⟩
              | some x =>
                rw [hT, show openV (some x) = .tuple #[.string x, .int .i64 0] from rfl] at Y
                have hx := size_openA hT
                have S := Lib.hid (fun w => aseal_yes k n wi x w hk hn (by omega) (by omega))
                rw [seal_open k n wi box x hT] at S
                clear hg1 hg2 hg3 hg4 hk hn hT hx
                go_enter Try.func16, Try.ntmps16
                go_wp2_with fail
                refine (Y.out _).mono ?_
                rintro e w1 ⟨rfl, hb⟩
                have B1 := Lib.hid hb
                clear hb
                go_wp2_with fail
                refine (S.out _).mono ?_
                rintro e w2 ⟨rfl, hb⟩
                have B2 := Lib.hid (B1.out.trans (hb.mono B1.out.size))
                clear hb
                go_wp2_with fail
                refine (A.out _).mono ?_
                rintro e w3 ⟨rfl, hb⟩
                have B3 := Lib.hid (B2.out.trans (hb.mono B2.out.size))
                clear hb
                go_wp2_with fail
                go_ret
                exact ⟨rfl, B3.out⟩
            · have tn : ((n.size : Int) != 12) = true := by simp; omega
              have N := Lib.hid (fun w => aopen_no k n wi box w (.inr hn))
              clear hg1 hg2 hg3 hg4 hk hn
              go_enter Try.func16, Try.ntmps16
              go_wp2_with fail
              refine (N.out _).mono ?_
              rintro e w1 ⟨rfl, hb⟩
              have B1 := Lib.hid hb
              clear hb
              go_wp2_with fail
              refine (A.out _).mono ?_
              rintro e w2 ⟨rfl, hb⟩
              have B2 := Lib.hid (B1.out.trans (hb.mono B1.out.size))
              clear hb
              go_wp2_with fail
              go_ret
              exact ⟨rfl, B2.out⟩
          · have tk : ((k.size : Int) != 32) = true := by simp; omega
            have N := Lib.hid (fun w => aopen_no k n wi box w (.inl hk))
            clear hg1 hg2 hg3 hg4 hk
            go_enter Try.func16, Try.ntmps16
            go_wp2_with fail
            refine (N.out _).mono ?_
            rintro e w1 ⟨rfl, hb⟩
            have B1 := Lib.hid hb
            clear hb
            go_wp2_with fail
            refine (A.out _).mono ?_
            rintro e w2 ⟨rfl, hb⟩
            have B2 := Lib.hid (B1.out.trans (hb.mono B1.out.size))
            clear hb
            go_wp2_with fail
            go_ret
            exact ⟨rfl, B2.out⟩

set_option maxRecDepth 100000 in
set_option maxHeartbeats 2000000 in
theorem aeadstream_any (k n wi ot s : ByteArray) (w : World) :
    Calls Try.prog 17 #[.string k, .string n, .string wi, .string ot, .string s] w fun e w' => e = .returned (.bool true) ∧ Below w.heap.size w w' := by
  have A := Lib.hid (fun w => awake07_any w)
  by_cases hg1 : k.size ≠ 32
  · have tg1 : ((k.size : Int) != 32) = true := by simp; omega
    clear hg1
    go_enter Try.func17, Try.ntmps17
    go_wp2_with fail
    refine (A.out _).mono ?_
    rintro e w1 ⟨rfl, hb1⟩
    go_wp2_with fail
    go_ret
    exact ⟨rfl, hb1⟩
  · have tg1 : ((k.size : Int) != 32) = false := by simp; omega
    by_cases hg2 : n.size ≠ 12
    · have tg2 : ((n.size : Int) != 12) = true := by simp; omega
      clear hg1 hg2
      go_enter Try.func17, Try.ntmps17
      go_wp2_with fail
      refine (A.out _).mono ?_
      rintro e w1 ⟨rfl, hb1⟩
      go_wp2_with fail
      go_ret
      exact ⟨rfl, hb1⟩
    · have tg2 : ((n.size : Int) != 12) = false := by simp; omega
      by_cases hg3 : wi.size > 4096
      · have tg3 : (wi.size : Int) > 4096 := by omega
        clear hg1 hg2 hg3
        go_enter Try.func17, Try.ntmps17
        go_wp2_with fail
        refine (A.out _).mono ?_
        rintro e w1 ⟨rfl, hb1⟩
        go_wp2_with fail
        go_ret
        exact ⟨rfl, hb1⟩
      · have tg3 : ¬ (wi.size : Int) > 4096 := by omega
        by_cases hg4 : ot.size > 4096
        · have tg4 : (ot.size : Int) > 4096 := by omega
          clear hg1 hg2 hg3 hg4
          go_enter Try.func17, Try.ntmps17
          go_wp2_with fail
          refine (A.out _).mono ?_
          rintro e w1 ⟨rfl, hb1⟩
          go_wp2_with fail
          go_ret
          exact ⟨rfl, hb1⟩
        · have tg4 : ¬ (ot.size : Int) > 4096 := by omega
          by_cases hg5 : s.size > 4096
          · have tg5 : (s.size : Int) > 4096 := by omega
            clear hg1 hg2 hg3 hg4 hg5
            go_enter Try.func17, Try.ntmps17
            go_wp2_with fail
            refine (A.out _).mono ?_
            rintro e w1 ⟨rfl, hb1⟩
            go_wp2_with fail
            go_ret
            exact ⟨rfl, hb1⟩
          · have tg5 : ¬ (s.size : Int) > 4096 := by omega
            have hk : k.size = 32 := by omega
            have hn : n.size = 12 := by omega
            have Y := Lib.hid (fun w => aseal_yes k n wi s w hk hn (by omega) (by omega))
            have Z := Lib.hid (fun w => aseal_yes k n ot s w hk hn (by omega) (by omega))
            have T := Lib.hid (fun w => turn_yes k n 1 s w hk hn)
            rw [wv1, show bs (trn (ls s) (ks k n 1)) = trnA k n s from rfl] at T
            have ea : (sealA k n wi s).extract 0 s.size = trnA k n s := ext_app_left _ _ _ (by rw [size_trnA])
            have za : ((sealA k n wi s).size : Int) = (s.size : Int) + 16 := by rw [size_sealA]; omega
            have ya : (s.size : Int) ≤ ((sealA k n wi s).size : Int) := by omega
            have eb : (sealA k n ot s).extract 0 s.size = trnA k n s := ext_app_left _ _ _ (by rw [size_trnA])
            have zb : ((sealA k n ot s).size : Int) = (s.size : Int) + 16 := by rw [size_sealA]; omega
            have yb : (s.size : Int) ≤ ((sealA k n ot s).size : Int) := by omega
            generalize sealA k n wi s = a at *
            generalize sealA k n ot s = b at *
            generalize trnA k n s = x at *
            have sb : (s.size : Int) ≤ 4096 := by omega
            have za2 : (a.size : Int) = (b.size : Int) := by omega
            have EA := Lib.hid ea
            have EB := Lib.hid eb
            have ZA := Lib.hid za
            have ZB := Lib.hid zb
            clear hg1 hg2 hg3 hg4 hg5 hk hn ea eb za zb za2
            go_enter Try.func17, Try.ntmps17
            go_wp2_with fail
            refine (Y.out _).mono ?_
            rintro e w1 ⟨rfl, hb⟩
            have B1 := Lib.hid hb
            clear hb
            go_wp2_with fail
            refine (Z.out _).mono ?_
            rintro e w2 ⟨rfl, hb⟩
            have B2 := Lib.hid (B1.out.trans (hb.mono B1.out.size))
            clear hb
            go_wp2_with fail
            refine (T.out _).mono ?_
            rintro e w3 ⟨rfl, hb⟩
            have B3 := Lib.hid (B2.out.trans (hb.mono B2.out.size))
            clear hb
            have ea := EA.out
            have eb := EB.out
            have za := ZA.out
            have zb := ZB.out
            go_wp2_with fail
            refine (A.out _).mono ?_
            rintro e w4 ⟨rfl, hb⟩
            have B4 := Lib.hid (B3.out.trans (hb.mono B3.out.size))
            clear hb
            go_wp2_with fail
            go_ret
            exact ⟨rfl, B4.out⟩
end Go.Proofs.Ytkfacnegfkgcgaa

/-
  mailsacklaw07.AeadBack: the walk.
-/
namespace Go.Proofs.Ytkfacnegfkgcgaa
open Go.RowKit MS

theorem xor_ne {x y : UInt8} (h : y ≠ 0) : x ^^^ y ≠ x := by
  intro e
  apply h
  have : x ^^^ (x ^^^ y) = x ^^^ x := by rw [e]
  rwa [← UInt8.xor_assoc, UInt8.xor_self, UInt8.zero_xor] at this
/-- The tag turned at one place. -/
def turnB (b : ByteArray) (p : Nat) (y : UInt8) : ByteArray := bs ((ls b).set p ((ls b).getD p 0 ^^^ y))
theorem turnB_open (k n wi s : ByteArray) (p : Nat) (y : UInt8) (hp : s.size ≤ p) (hp2 : p < s.size + 16) (hy : y ≠ 0) : openA k n wi (turnB (sealA k n wi s) p y) = none := by
  have hz := size_sealA k n wi s
  generalize hb : sealA k n wi s = b at *
  have hl := length_ls b
  have hx : (turnB b p y).size = s.size + 16 := by rw [turnB, size_bs, List.length_set, hl, hz]
  refine open_other k n wi s _ hx ?_ ?_
  · rw [hb]
    apply ls_inj
    rw [ls_extract, ls_extract, turnB, ls_bs, List.drop_zero, List.drop_zero, Nat.sub_zero]
    apply List.ext_getElem?
    intro i
    rw [List.getElem?_take, List.getElem?_take]
    by_cases h : i < s.size
    · rw [if_pos h, if_pos h, List.getElem?_set, if_neg (by omega)]
    · rw [if_neg h, if_neg h]
  · rw [hb]
    intro e
    have e2 := congrArg (fun t => (ls t)[p]?) e
    simp only [turnB, ls_bs] at e2
    rw [List.getElem?_set, if_pos rfl, if_pos (by omega), List.getD_eq_getElem?_getD, List.getElem?_eq_getElem (by omega), Option.getD_some] at e2
    exact xor_ne hy (Option.some.inj e2)

set_option maxRecDepth 100000 in
set_option maxHeartbeats 3000000 in
theorem aeadback_any (k n wi s : ByteArray) (at' y : UInt8) (w : World) :
    Calls Try.prog 15 #[.string k, .string n, .string wi, .string s, .int .u8 (at'.toNat : Int), .int .u8 (y.toNat : Int)] w fun e w' => e = .returned (.bool true) ∧ Below w.heap.size w w' := by
  have A := Lib.hid (fun w => awake07_any w)
  by_cases hg1 : k.size ≠ 32
  · have tg1 : ((k.size : Int) != 32) = true := by simp; omega
    clear hg1
    go_enter Try.func15, Try.ntmps15
    go_wp2_with fail
    refine (A.out _).mono ?_
    rintro e w1 ⟨rfl, hb1⟩
    go_wp2_with fail
    go_ret
    exact ⟨rfl, hb1⟩
  · have tg1 : ((k.size : Int) != 32) = false := by simp; omega
    by_cases hg2 : n.size ≠ 12
    · have tg2 : ((n.size : Int) != 12) = true := by simp; omega
      clear hg1 hg2
      go_enter Try.func15, Try.ntmps15
      go_wp2_with fail
      refine (A.out _).mono ?_
      rintro e w1 ⟨rfl, hb1⟩
      go_wp2_with fail
      go_ret
      exact ⟨rfl, hb1⟩
    · have tg2 : ((n.size : Int) != 12) = false := by simp; omega
      by_cases hg3 : wi.size > 4096
      · have tg3 : (wi.size : Int) > 4096 := by omega
        clear hg1 hg2 hg3
        go_enter Try.func15, Try.ntmps15
        go_wp2_with fail
        refine (A.out _).mono ?_
        rintro e w1 ⟨rfl, hb1⟩
        go_wp2_with fail
        go_ret
        exact ⟨rfl, hb1⟩
      · have tg3 : ¬ (wi.size : Int) > 4096 := by omega
        by_cases hg4 : s.size > 4096
        · have tg4 : (s.size : Int) > 4096 := by omega
          clear hg1 hg2 hg3 hg4
          go_enter Try.func15, Try.ntmps15
          go_wp2_with fail
          refine (A.out _).mono ?_
          rintro e w1 ⟨rfl, hb1⟩
          go_wp2_with fail
          go_ret
          exact ⟨rfl, hb1⟩
        · have tg4 : ¬ (s.size : Int) > 4096 := by omega
          have hk : k.size = 32 := by omega
          have hn : n.size = 12 := by omega
          have Y := Lib.hid (fun w => aseal_yes k n wi s w hk hn (by omega) (by omega))
          have hz := size_sealA k n wi s
          have O := Lib.hid (fun w => aopen_any k n wi (sealA k n wi s) w hk hn (by omega) (by omega))
          rw [open_seal, show openV (some s) = .tuple #[.string s, .int .i64 0] from rfl] at O
          have sb : (s.size : Int) ≤ 4096 := by omega
          have s0 : (0 : Int) ≤ (s.size : Int) := by omega
          obtain ⟨m, hm⟩ : ∃ m, at'.toNat % 16 = m := ⟨_, rfl⟩
          have qm : (at'.toNat : Int) % 16 = (m : Int) := by omega
          have hm16 : m < 16 := by omega
          have P := Lib.hid (fun (hy : y ≠ 0) w => aopen_any k n wi (turnB (sealA k n wi s) (s.size + m) y) w hk hn (by omega) (by rw [turnB, size_bs, List.length_set, length_ls, hz]; omega))
          have HPN := Lib.hid (fun hy => turnB_open k n wi s (s.size + m) y (by omega) (by omega) hy)
          have HBZ := Lib.hid (show ((sealA k n wi s).size : Int) = (s.size : Int) + 16 by rw [hz]; omega)
          have HZZ := Lib.hid hz
          generalize sealA k n wi s = b at *
          have tne : ((b.size : Int) != (s.size : Int) + 16) = false := by have := HBZ.out; simp; omega
          clear hg1 hg2 hg3 hg4 hk hn hz hm
          by_cases hy : y = 0
          · have ty : ((y.toNat : Int) == 0) = true := by rw [hy]; rfl
            clear hy
            go_enter Try.func15, Try.ntmps15
            go_wp2_with fail
            refine (Y.out _).mono ?_
            rintro e w1 ⟨rfl, hb⟩
            have B1 := Lib.hid hb
            clear hb
            go_wp2_with fail
            refine (O.out _).mono ?_
            rintro e w2 ⟨rfl, hb⟩
            have B2 := Lib.hid (B1.out.trans (hb.mono B1.out.size))
            clear hb
            go_wp2_with fail
            refine (A.out _).mono ?_
            rintro e w3 ⟨rfl, hb⟩
            have B3 := Lib.hid (B2.out.trans (hb.mono B2.out.size))
            clear hb
            go_wp2_with fail
            go_ret
            exact ⟨rfl, B3.out⟩
          · have ty : ((y.toNat : Int) == 0) = false := by
              refine beq_eq_false_iff_ne.2 fun e => hy ?_
              apply UInt8.toNat_inj.1
              show y.toNat = 0
              omega
            have P2 := Lib.hid (P.out hy)
            rw [HPN.out hy, show openV none = .tuple #[.string ⟨#[]⟩, .int .i64 7] from rfl] at P2
            have HML := Lib.hid (show b.size ≤ maxLen by have := HZZ.out; unfold maxLen; omega)
            have HL := Lib.hid (length_ls b)
            obtain ⟨p, hp⟩ : ∃ p, s.size + m = p := ⟨_, rfl⟩
            rw [hp] at P2
            have qp : (s.size : Int) + (m : Int) = (p : Int) := by omega
            have HPB := Lib.hid (show p < b.size by have := HZZ.out; omega)
            have p0 : (0 : Int) ≤ (p : Int) := by omega
            have p1 : (p : Int) < (b.size : Int) := by have := HPB.out; omega
            have m0 : (0 : Int) ≤ (m : Int) := by omega
            have m1 : (m : Int) < 16 := by omega
            have u0 : (0 : Int) ≤ (at'.toNat : Int) := by omega
            have u1 : (at'.toNat : Int) < 256 := by have := at'.toNat_lt; omega
            clear hy hm16 hp P HPN
            go_enter Try.func15, Try.ntmps15
            go_wp2_with fail
            refine (Y.out _).mono ?_
            rintro e w1 ⟨rfl, hb⟩
            have B1 := Lib.hid hb
            clear hb
            go_wp2_with fail
            refine (O.out _).mono ?_
            rintro e w2 ⟨rfl, hb⟩
            have B2 := Lib.hid (B1.out.trans (hb.mono B1.out.size))
            clear hb
            go_wp2_with (refine wpList_conv_own rfl (.tmp 77) 9 37 5 rfl b rfl Try.underlying9 Try.underlying37 Try.underlying5 w2.heap.size b.size rfl (Nat.le_refl _) HML.out ?_)
            intro g0 c0 w3 h1 h2
            have HO := Lib.hid (show ownsF w3 w2.heap.size 5 (.slice (some ⟨g0, 0, none⟩) b.size c0) b.size (vls (ls b)) from h1)
            have B3 := Lib.hid (B2.out.trans (h2.mono B2.out.size))
            have HGE := Lib.hid (show w.heap.size ≤ g0 from Nat.le_trans B2.out.size h1.ge)
            clear h1 h2
            have cp : w3.cell? ⟨g0, p, none⟩ = some (.int .u8 (((ls b).getD p 0).toNat : Int)) := by
              rw [HO.out.cell p HPB.out]
              have : p < (ls b).length := by rw [HL.out]; exact HPB.out
              simp [vls, valB, this]
            have fp := HO.out.free p HPB.out
            have HPUT := Lib.hid (HO.out.put p (valB ((ls b).getD p 0 ^^^ y)))
            have hxor : bits .xor .u8 (((ls b).getD p 0).toNat : Int) (y.toNat : Int) = (((ls b).getD p 0 ^^^ y).toNat : Int) := by
              rw [u8_xor_nat _ _ ((ls b).getD p 0).toNat_lt y.toNat_lt, UInt8.toNat_xor]
            have HSET := Lib.hid (show (vls (ls b)).set p (valB ((ls b).getD p 0 ^^^ y)) = ((ls b).set p ((ls b).getD p 0 ^^^ y)).map (fun b => Value.int .u8 (b.toNat : Int)) by rw [List.map_set]; rfl)
            have HTB := Lib.hid (show turnB b p y = bs (((ls b).set p ((ls b).getD p 0 ^^^ y))) from rfl)
            have HLN := Lib.hid (show (((ls b).set p ((ls b).getD p 0 ^^^ y)).drop 0).take b.size = (ls b).set p ((ls b).getD p 0 ^^^ y) by rw [List.drop_zero, List.take_of_length_le (by rw [List.length_set, HL.out]; exact Nat.le_refl _)])
            generalize (ls b).getD p 0 = x at *
            obtain ⟨z, ez⟩ : ∃ z, x ^^^ y = z := ⟨_, rfl⟩
            rw [ez] at HPUT hxor HSET HTB HLN
            generalize turnB b p y = T at *
            have B4 := Lib.hid (show Below w.heap.size w (w3.setCell ⟨g0, p, none⟩ (.int .u8 (z.toNat : Int))) from B3.out.setCell HGE.out _)
            have hcv : (convert 37 9 (.slice (some ⟨g0, 0, none⟩) b.size c0)).run Try.prog (w3.setCell ⟨g0, p, none⟩ (.int .u8 (z.toNat : Int))) = .ok (.string T) (w3.setCell ⟨g0, p, none⟩ (.int .u8 (z.toNat : Int))) := by
              have h := HPUT.out
              rw [HSET.out] at h
              have := ownsF_conv (P := Try.prog) _ w2.heap.size 37 9 5 Try.underlying37 Try.underlying5 Try.underlying9 h 0 b.size c0 (by omega)
              rw [HLN.out, ← HTB.out] at this
              exact this
            clear ez
            go_wp2_with fail
            refine (P2.out _).mono ?_
            rintro e w5 ⟨rfl, hb⟩
            have B5 := Lib.hid (B4.out.trans (hb.mono B4.out.size))
            clear hb hcv cp fp
            go_wp2_with fail
            refine (A.out _).mono ?_
            rintro e w6 ⟨rfl, hb⟩
            have B6 := Lib.hid (B5.out.trans (hb.mono B5.out.size))
            clear hb
            go_wp2_with fail
            go_ret
            exact ⟨rfl, B6.out⟩
end Go.Proofs.Ytkfacnegfkgcgaa
