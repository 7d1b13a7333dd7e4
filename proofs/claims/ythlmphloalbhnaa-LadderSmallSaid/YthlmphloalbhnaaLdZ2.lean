/-
  Texts of this seat, put together: OwnF, Own2, RFa, RFb, RFc, RFd, RFe, RFf, RFg, App2, RFh, RFi, RFl, EcNt, EcE.
-/
import Derived.Test.YthlmphloalbhnaaLdZ1
import Derived.ArgAppend
import Derived.Below
import Derived.Laws.AppendOwn
import Derived.Laws.OwnMore
import Derived.OwnWalk
import Derived.Deep.RegionWith
import Derived.Deep.DeepCutAuto
import Derived.OrdersHeld
import Derived.Deep.AppendLies
import Derived.Great.Frames

/-
  A row of the call's own whose block may carry a frozen mark behind its cells (what a string turned into bytes lies in): appended to, one element a time.
-/
namespace MS
open Go Go.RowKit

/-- The value v has its n elements, the cells xs, in a row of the call's own; none of the row's cells is frozen. -/
def ownsF (w : World) (base : Nat) (e : TypeId) (v : Value) (n : Nat) (xs : List Value) : Prop :=
  xs.length = n ∧ ∃ (g cap : Nat) (cur : Array Value) (fr : Nat × Nat), v = .slice (some ⟨g, 0, none⟩) n cap ∧ base ≤ g ∧ w.heap[g]? = some (.cells cur e fr) ∧ n ≤ cap ∧ cap ≤ maxLen ∧ cur.size = cap ∧ (fr = (0, 0) ∨ cap ≤ fr.1) ∧ cur.toList.take n = xs

theorem ownsF.lt {w : World} {base : Nat} {e : TypeId} {v : Value} {n : Nat} {xs : List Value} (h : ownsF w base e v n xs) : ∀ k, v.ownBlock = some k → base ≤ k ∧ k < w.heap.size := by
  obtain ⟨_, g, cap, cur, fr, rfl, hb, hg, _⟩ := h
  intro k hk
  simp [Value.ownBlock] at hk
  subst hk
  exact ⟨hb, (Array.getElem?_eq_some_iff.1 hg).1⟩
theorem ownsF.alloc {w : World} {base : Nat} {e : TypeId} {v : Value} {n : Nat} {xs : List Value} (h : ownsF w base e v n xs) (o : Obj) : ownsF (w.alloc o) base e v n xs := by
  obtain ⟨h1, g, cap, cur, fr, rfl, hb, hg, h2⟩ := h
  exact ⟨h1, g, cap, cur, fr, rfl, hb, ((MapKept.heap_alloc w o).2 _ (Array.getElem?_eq_some_iff.1 hg).1).trans hg, h2⟩
theorem ownsF.on {w w' : World} {base : Nat} {e : TypeId} {v : Value} {n : Nat} {xs : List Value} (h : ownsF w base e v n xs) (hb' : Below w.heap.size w w') : ownsF w' base e v n xs := by
  obtain ⟨h1, g, cap, cur, fr, rfl, hb, hg, h2⟩ := h
  exact ⟨h1, g, cap, cur, fr, rfl, hb, (hb'.block _ (Array.getElem?_eq_some_iff.1 hg).1).trans hg, h2⟩
theorem ownsF.drew {w : World} {base : Nat} {e : TypeId} {v : Value} {n : Nat} {xs : List Value} (h : ownsF w base e v n xs) : ownsF w.drew base e v n xs := h
theorem ownsF.form {w : World} {base : Nat} {e : TypeId} {v : Value} {n : Nat} {xs : List Value} (h : ownsF w base e v n xs) : ∃ g cap, v = .slice (some ⟨g, 0, none⟩) n cap ∧ n ≤ cap ∧ cap ≤ maxLen ∧ g < w.heap.size := by
  obtain ⟨_, g, cap, cur, fr, rfl, hb, hg, h2, h3, _⟩ := h
  exact ⟨g, cap, rfl, h2, h3, (Array.getElem?_eq_some_iff.1 hg).1⟩
theorem ownsF.cell {w : World} {base : Nat} {e : TypeId} {n g cap : Nat} {xs : List Value} (h : ownsF w base e (.slice (some ⟨g, 0, none⟩) n cap) n xs) (j : Nat) (hj : j < n) : w.cell? ⟨g, j, none⟩ = xs[j]? := by
  obtain ⟨h1, g', cap', cur, fr, e1, hb, hg, h2, h3, h4, h5, h6⟩ := h
  simp only [Value.slice.injEq, Option.some.injEq, Addr.mk.injEq] at e1
  obtain ⟨⟨rfl, _, _⟩, _, rfl⟩ := e1
  rw [← h6, List.getElem?_take_of_lt hj]
  simp [World.cell?, hg]

theorem frozen_out {w : World} {g cap : Nat} {cur : Array Value} {e : TypeId} {fr : Nat × Nat} (hg : w.heap[g]? = some (.cells cur e fr)) (h : fr = (0, 0) ∨ cap ≤ fr.1) (j : Nat) (hj : j < cap) : w.frozen? ⟨g, j, none⟩ = false := by
  obtain ⟨lo, hi⟩ := fr
  simp only [World.frozen?, hg]
  rcases h with h | h
  · cases h; simp
  · simp only at h
    simp only [Bool.and_eq_false_iff, decide_eq_false_iff_not]
    left; omega

theorem setCell_cells {w : World} {g i : Nat} {cs : Array Value} {e : TypeId} {fr : Nat × Nat} (v : Value) (hg : w.heap[g]? = some (.cells cs e fr)) : (w.setCell ⟨g, i, none⟩ v).heap[g]? = some (.cells (cs.setIfInBounds i v) e fr) := by
  simp [World.setCell, Array.getElem?_modify, hg]
theorem setCell_other' {w : World} {g i k : Nat} (v : Value) (hk : k ≠ g) : (w.setCell ⟨g, i, none⟩ v).heap[k]? = w.heap[k]? := by
  simp [World.setCell, Array.getElem?_modify, Ne.symm hk]

theorem take_set (l : List Value) (n : Nat) (x : Value) (h : n < l.length) : (l.set n x).take (n + 1) = l.take n ++ [x] := by
  apply List.ext_getElem?
  intro j
  rw [List.getElem?_take, List.getElem?_set, List.getElem?_append]
  have hl : (l.take n).length = n := by simp; omega
  rw [hl]
  by_cases h1 : j < n
  · rw [if_pos (by omega), if_neg (by omega), if_pos h1, List.getElem?_take, if_pos h1]
  · rw [if_neg h1]
    by_cases h2 : j = n
    · subst h2; simp [h]
    · rw [if_neg (by omega), List.getElem?_eq_none (by simp; omega)]

section
variable {P : Program}
theorem run_append_f (w : World) (base : Nat) (t ty e : TypeId) (i : TypeInfo) (z : Value) (ht : P.underlying t = some (.slice e)) (hi : P.info? e = some i) (hz : i.zero = some z) (hsize : i.size = 1) (hby : i.bytes = 1) (hzs : z.cells.size = 1)
    (v : Value) (n : Nat) (xs : List Value) (hown : ownsF w base e v n xs) (ad : Addr) (c : Nat) (x : Value) (hnew : w.cell? ad = some x) (h1 : x.oneCell' = true) (hn : n + 1 ≤ 140737488355328) (hbase : base ≤ w.heap.size) :
    ∃ v' w', (Builtin.append_ #[t, t] ty #[v, .slice (some ad) 1 c]).run P w = .ok v' w' ∧ ownsF w' base e v' (n + 1) (xs ++ [x]) ∧ w.grownBy w' v.ownBlock := by
  have hown0 := hown
  obtain ⟨hl, g, cap, cur, fr, rfl, hbg, hg, hnc, hcm, hcs, hfr, htake⟩ := hown
  have hnl : ([x] : List Value).length = 1 * i.size := by rw [hsize]; rfl
  have hnews : ∀ j u, [x][j]? = some u → w.cell? (ad.add j) = some u := by
    intro j u hu
    cases j with
    | zero =>
      simp at hu; subst hu
      have : ad.add 0 = ad := by unfold Addr.add; split <;> simp_all
      rw [this]; exact hnew
    | succ j => simp at hu
  by_cases hroom : n + 1 ≤ cap
  · have hcell : (w.cell? ⟨g, n, none⟩).isSome = true := by simp [World.cell?, hg]; omega
    have hr := run_append_room_cells (P := P) w t ty e i ht hi g 0 n cap ad 1 c [x] hnl hnews (by simpa using h1) hroom
      (fun j hj => by
        have : j = 0 := by simpa using hj
        subst this
        rw [hsize, Nat.zero_add, Nat.mul_one, Nat.add_zero]; exact hcell)
      (fun j hj => by
        have : j = 0 := by simpa using hj
        subst this
        rw [hsize, Nat.zero_add, Nat.mul_one, Nat.add_zero]; exact frozen_out hg hfr n (by omega))
    rw [hsize, Nat.zero_add, Nat.mul_one] at hr
    have hw : w.setCells g n [x] = w.setCell ⟨g, n, none⟩ x := rfl
    rw [hw] at hr
    refine ⟨_, _, hr, ⟨by simp [hl], g, cap, cur.setIfInBounds n x, fr, rfl, hbg, setCell_cells x hg, hroom, hcm, by simp [hcs], hfr, ?_⟩, ⟨rfl, rfl, rfl, by simp [World.setCell], fun k _ hk => setCell_other' x (fun e => hk (by simp [Value.ownBlock, e]))⟩⟩
    rw [Array.toList_setIfInBounds, take_set _ _ _ (by simp; omega), htake]
  · have holds : ∀ j u, xs[j]? = some u → w.cell? ((⟨g, 0, none⟩ : Addr).add j) = some u := fun j u hu => by
      have hj : j < n := by rw [← hl]; exact (List.getElem?_eq_some_iff.1 hu).1
      rw [Addr.add_lit, Nat.zero_add, hown0.cell j hj, hu]
    have hr := run_append_grow (P := P) w t ty e i z ht hi hz ⟨g, 0, none⟩ n cap xs (by rw [hsize, hl, Nat.mul_one]) holds ad 1 c [x] hnl hnews (by omega) (by omega) (by
      have := growslice_fits (need := n + 1) (old := cap) (bytes := i.bytes) (by omega) (by rw [hby]; omega)
      exact this)
    have hge := grownCap_ge w (n + 1) cap e
    have hcm' : grownCap w (n + 1) cap e ≤ maxLen := grownCap_le_maxLen w (n + 1) cap e (by unfold maxLen; omega)
    refine ⟨_, _, hr, ⟨by simp [hl], w.heap.size, _, _, (0, 0), rfl, hbase, heap_alloc_new w.drew _, hge, hcm', ?_, .inl rfl, ?_⟩, ⟨rfl, rfl, rfl, by simp, fun k hk _ => (MapKept.heap_alloc w.drew _).2 k hk⟩⟩
    · simp only [Array.size_append, List.size_toArray, size_zeroCells, hzs, hl, List.length_cons, List.length_nil]
      omega
    · have h7 : (xs ++ [x]).length = n + 1 := by simp [hl]
      simp only [Array.toList_append]
      rw [← h7]
      exact List.take_left
theorem wpList_append_f (w : World) {ops : Array Oper} {rest : List Oper} {o : Oper} {a : Act} {Q : Exit → Act → World → Prop} (hgd : o.guard = none) (s x : Operand) (t : TypeId)
    (ho : o.op = .call { callee := .builtin .append, args := #[s, x], argTypes := #[t, t] })
    (base : Nat) (e : TypeId) (i : TypeInfo) (z : Value) (ht : P.underlying t = some (.slice e)) (hi : P.info? e = some i) (hz : i.zero = some z) (hsize : i.size = 1) (hby : i.bytes = 1) (hzs : z.cells.size = 1)
    (v : Value) (n : Nat) (xs : List Value) (hs : a.eval s = v) (hown : ownsF w base e v n xs)
    (ad : Addr) (c : Nat) (u : Value) (hx : a.eval x = .slice (some ad) 1 c) (hnew : w.cell? ad = some u) (h1 : u.oneCell' = true) (hn : n + 1 ≤ 140737488355328) (hbase : base ≤ w.heap.size)
    (h : ∀ v' w', ownsF w' base e v' (n + 1) (xs ++ [u]) → w.grownBy w' v.ownBlock → wpList P ops Q rest (a.put o.dst v') w') : wpList P ops Q (o :: rest) a w := by
  refine wpList_plain hgd fun K hK => ?_
  obtain ⟨v', w', hr, h2, h3⟩ := run_append_f (P := P) w base t o.type e i z ht hi hz hsize hby hzs v n xs hown ad c u hnew h1 hn hbase
  unfold Oper.wp
  simp [execOp, ho, resolve, invoke, builtin, hs, hx, hr, Result.andThen]
  exact hK _ _ (h v' w' h2 h3)

/-- A string turned into bytes owns such a row. -/
theorem ownsF_bytes (w : World) (base : Nat) (e : TypeId) (s : ByteArray) (hb : base ≤ w.heap.size) (hs : s.size ≤ maxLen) :
    ownsF (Lib.bytesWorld w e s) base e (.slice (some ⟨w.heap.size, 0, none⟩) s.size (grownCap w s.size 0 e)) s.size (s.data.toList.map fun b => Value.int .u8 b.toNat) := by
  have hge := grownCap_ge w s.size 0 e
  have hd : s.data.size = s.size := rfl
  have hsz : (Lib.bytesCells w e s).size = grownCap w s.size 0 e := by
    simp only [Lib.bytesCells, Array.size_append, Array.size_map, Array.size_replicate, hd]
    omega
  refine ⟨by simp, w.heap.size, _, _, _, rfl, hb, Lib.bytesWorld_at_new w e s, hge, grownCap_le_maxLen w _ _ _ hs, hsz, .inr (by rw [hsz]; exact Nat.le_refl _), ?_⟩
  simp only [Lib.bytesCells, Array.toList_append, Array.toList_map]
  have h7 : (s.data.toList.map fun b => Value.int .u8 b.toNat).length = s.size := by simp
  rw [← h7]
  exact List.take_left
theorem below_bytes (w : World) (e : TypeId) (s : ByteArray) : Below w.heap.size w (Lib.bytesWorld w e s) :=
  ⟨rfl, rfl, rfl, by rw [Lib.bytesWorld_size]; omega, fun j hj => Lib.bytesWorld_at_old w e s j hj⟩
theorem wpList_conv_f {w : World} {ops : Array Oper} {rest : List Oper} {o : Oper} {a : Act} {Q : Exit → Act → World → Prop} (hgd : o.guard = none) (x : Operand) (src dst e : TypeId) (ho : o.op = .convert src dst x)
    (s : ByteArray) (hx : a.eval x = .string s) {u : TypeDesc} (hs : P.underlying src = some u) (hd : P.underlying dst = some (.slice e)) (he : P.underlying e = some (.int .u8))
    (h : wpList P ops Q rest (a.put o.dst (.slice (some ⟨w.heap.size, 0, none⟩) s.size (grownCap w s.size 0 e))) (Lib.bytesWorld w e s)) : wpList P ops Q (o :: rest) a w := by
  refine wpList_plain hgd fun K hK => ?_
  unfold Oper.wp
  simp [execOp, ho, hx, Lib.run_convert_string_bytes w src dst e s hs hd he]
  exact hK _ _ h
theorem wpList_conv_own {w : World} {ops : Array Oper} {rest : List Oper} {o : Oper} {a : Act} {Q : Exit → Act → World → Prop} (hgd : o.guard = none) (x : Operand) (src dst e : TypeId) (ho : o.op = .convert src dst x)
    (s : ByteArray) (hx : a.eval x = .string s) {u : TypeDesc} (hs : P.underlying src = some u) (hd : P.underlying dst = some (.slice e)) (he : P.underlying e = some (.int .u8)) (base n : Nat) (hn : s.size = n) (hb : base ≤ w.heap.size) (hm : n ≤ maxLen)
    (h : ∀ g cap w', ownsF w' base e (.slice (some ⟨g, 0, none⟩) n cap) n (s.data.toList.map fun b => Value.int .u8 b.toNat) → Below w.heap.size w w' → wpList P ops Q rest (a.put o.dst (.slice (some ⟨g, 0, none⟩) n cap)) w') : wpList P ops Q (o :: rest) a w := by
  subst hn
  exact wpList_conv_f hgd x src dst e ho s hx hs hd he (h _ _ _ (ownsF_bytes w base e s hb hm) (below_bytes w e s))
theorem ownsF.put {w : World} {base : Nat} {e : TypeId} {n g cap : Nat} {xs : List Value} (h : ownsF w base e (.slice (some ⟨g, 0, none⟩) n cap) n xs) (i : Nat) (x : Value) : ownsF (w.setCell ⟨g, i, none⟩ x) base e (.slice (some ⟨g, 0, none⟩) n cap) n (xs.set i x) := by
  obtain ⟨h1, g', cap', cur, fr, e1, hb, hg, h2, h3, h4, h5, h6⟩ := h
  simp only [Value.slice.injEq, Option.some.injEq, Addr.mk.injEq] at e1
  obtain ⟨⟨rfl, _, _⟩, _, rfl⟩ := e1
  refine ⟨by simp [h1], g, cap, cur.setIfInBounds i x, fr, rfl, hb, setCell_cells x hg, h2, h3, by simp [h4], h5, ?_⟩
  rw [Array.toList_setIfInBounds, List.take_set, h6]
theorem ownsF.free {w : World} {base : Nat} {e : TypeId} {n g cap : Nat} {xs : List Value} (h : ownsF w base e (.slice (some ⟨g, 0, none⟩) n cap) n xs) (j : Nat) (hj : j < n) : w.frozen? ⟨g, j, none⟩ = false := by
  obtain ⟨h1, g', cap', cur, fr, e1, hb, hg, h2, h3, h4, h5, h6⟩ := h
  simp only [Value.slice.injEq, Option.some.injEq, Addr.mk.injEq] at e1
  obtain ⟨⟨rfl, _, _⟩, _, rfl⟩ := e1
  exact frozen_out hg h5 j (by omega)
theorem ownsF.ge {w : World} {base : Nat} {e : TypeId} {n g cap : Nat} {xs : List Value} (h : ownsF w base e (.slice (some ⟨g, 0, none⟩) n cap) n xs) : base ≤ g := by
  obtain ⟨h1, g', cap', cur, fr, e1, hb, _⟩ := h
  simp only [Value.slice.injEq, Option.some.injEq, Addr.mk.injEq] at e1
  obtain ⟨⟨rfl, _, _⟩, _⟩ := e1
  exact hb
/-- A string out of a part of such a row. -/
theorem ownsF_conv (w : World) (base : Nat) (src dst e : TypeId) (hs : P.underlying src = some (.slice e)) (he : P.underlying e = some (.int .u8)) (hd : P.underlying dst = some .string)
    {g n cap : Nat} {l : List UInt8} (h : ownsF w base e (.slice (some ⟨g, 0, none⟩) n cap) n (l.map fun b => Value.int .u8 (b.toNat : Int))) (a m c2 : Nat) (ha : a + m ≤ n) :
    (convert src dst (.slice (some ⟨g, a, none⟩) m c2)).run P w = .ok (.string (bs ((l.drop a).take m))) w := by
  have hl : l.length = n := by simpa using h.1
  refine run_bytes_to_string w src dst e hs he hd g a m c2 _ (by simp; omega) (fun j hj => ?_)
  have hj' : j < m := by simp at hj; omega
  rw [h.cell (a + j) (by omega)]
  simp [show a + j < l.length by omega]
end
end MS

/-
  Rows of the call's own in later worlds.
-/
namespace MS
open Go Go.RowKit
theorem grown_of_below {w w' : World} (h : Below w.heap.size w w') : w.grownBy w' none := ⟨h.os, h.tape, h.output, h.size, fun k hk _ => h.block k hk⟩
theorem ownsRow_on {w w' : World} {base : Nat} {e : TypeId} {size : Nat} {v : Value} {n : Nat} {xs : List Value} (h : w.ownsRow base e size v n xs) (hb : Below w.heap.size w w') : w'.ownsRow base e size v n xs :=
  h.kept (grown_of_below hb) (by cases hv : v.ownBlock with | none => exact .inl rfl | some k => right; intro h; cases h)
def sliceLen : Value → Nat
  | .slice _ n _ => n
  | _ => 0
theorem own_cap {w : World} {base : Nat} {e : TypeId} {size : Nat} {g n cap : Nat} {xs : List Value} (h : w.ownsRow base e size (.slice (some ⟨g, 0, none⟩) n cap) n xs) : n ≤ cap ∧ cap ≤ maxLen ∧ base ≤ g ∧ g < w.heap.size := by
  obtain ⟨_, h | ⟨g', cap', cur, e1, hb, hg, hn, hm, _⟩⟩ := h
  · cases h.1
  · simp only [Value.slice.injEq, Option.some.injEq, Addr.mk.injEq] at e1
    obtain ⟨⟨rfl, _, _⟩, _, rfl⟩ := e1
    exact ⟨hn, hm, hb, (Array.getElem?_eq_some_iff.1 hg).1⟩
end MS
namespace Go.Proofs.Ythlmphloalbhnaa
open Go.RowKit MS
theorem conv_pre {B2 cap g N : Nat} {w : World} (l : List UInt8) (n : Nat) (hl : l.length = N) (hn : n ≤ N) (hown : w.ownsRow B2 5 1 (.slice (some ⟨g, 0, none⟩) N cap) N (vls l)) :
    (convert 54 9 (.slice (some ⟨g, 0, none⟩) n cap)).run Try.prog w = .ok (.string (bs (l.take n))) w := by
  refine run_bytes_to_string w 54 9 5 Try.underlying54 Try.underlying5 Try.underlying9 g 0 n cap (l.take n) (by simp; omega) (fun j h => ?_)
  have h' : j < n := by simp at h; omega
  have := hown.cellAt j (by omega)
  rw [Nat.zero_add, this]
  simp [vls, valB, show j < l.length by omega, List.getElem_take]
end Go.Proofs.Ythlmphloalbhnaa

/-
  mailsackref03: digits in slices; add.
-/
namespace Go.Proofs.Ythlmphloalbhnaa
open Go.RowKit MS

def dvs (l : List Nat) : List Value := l.map (fun n => .int .i64 ((n : Nat) : Int))
theorem dvs_app (l : List Nat) (n : Nat) : dvs (l ++ [n]) = dvs l ++ [.int .i64 ((n : Nat) : Int)] := by simp [dvs]
theorem length_dvs (l : List Nat) : (dvs l).length = l.length := by simp [dvs]
/-- A slice of n digits of u. -/
def DS (w : World) (base : Nat) (v : Value) (n u : Nat) : Prop := w.ownsRow base 3 1 v n (dvs (dgn 65536 n u)) ∧ u < 65536 ^ n ∧ 0 < n ∧ n ≤ 100
theorem DS.on {w w' : World} {base n u : Nat} {v : Value} (h : DS w base v n u) (hb : Below w.heap.size w w') : DS w' base v n u := ⟨ownsRow_on h.1 hb, h.2⟩
theorem DS.form {w : World} {base n u : Nat} {v : Value} (h : DS w base v n u) : ∃ g cap, v = .slice (some ⟨g, 0, none⟩) n cap ∧ base ≤ g ∧ g < w.heap.size := h.1.form h.2.2.1
theorem DS.base {w : World} {base base' n u : Nat} {v : Value} (h : DS w base v n u) (hb : base' ≤ base) : DS w base' v n u := by
  refine ⟨⟨h.1.1, ?_⟩, h.2⟩
  rcases h.1.2 with h1 | ⟨g, cap, cur, h1, h2, h3⟩
  · exact .inl h1
  · exact .inr ⟨g, cap, cur, h1, Nat.le_trans hb h2, h3⟩
theorem DS.cell {w : World} {base g cap n u : Nat} (h : DS w base (.slice (some ⟨g, 0, none⟩) n cap) n u) (i : Nat) (hi : i < n) : w.cell? ⟨g, i, none⟩ = some (.int .i64 ((u / 65536 ^ i % 65536 : Nat) : Int)) := by
  rw [h.1.cellAt i (by omega), dvs, List.getElem?_map, dg_get _ _ _ _ hi]
  rfl
theorem DS.cells {w : World} {base g cap n u : Nat} (h : DS w base (.slice (some ⟨g, 0, none⟩) n cap) n u) : ∀ w', Below w.heap.size w w' → ∀ i, i < n → w'.cell? ⟨g, i, none⟩ = some (.int .i64 ((u / 65536 ^ i % 65536 : Nat) : Int)) :=
  fun _ hb i hi => (h.on hb).cell i hi

theorem cry_top (u v k : Nat) (hu : u < 65536 ^ k) (hv : v < 65536 ^ k) : cry 65536 u v (k + 1) = 0 := by
  unfold cry
  rw [Nat.pow_succ]
  generalize 65536 ^ k = X at *
  rw [Nat.mod_eq_of_lt (by omega), Nat.mod_eq_of_lt (by omega), Nat.div_eq_of_lt (by omega)]
/-- What add has gathered. -/
structure RAd (w0 : World) (u v : Nat) (x : Value) (j : Nat) (w : World) : Prop where
  own : w.ownsRow w0.heap.size 3 1 x j (dvs (dgn 65536 j (u + v)))
  bel : Below w0.heap.size w0 w

set_option maxRecDepth 1000000 in
set_option maxHeartbeats 2000000 in
theorem radd_any (n m u v : Nat) (va vb : Value) (ba bb : Nat) (w : World) (ha : DS w ba va n u) (hb : DS w bb vb m v) :
    Calls Try.prog 44 #[va, vb] w fun e w' => Below w.heap.size w w' ∧ ∃ r k, e = .returned r ∧ n ≤ k ∧ m ≤ k ∧ k ≤ max n m + 1 ∧ u + v < 65536 ^ k ∧ w'.ownsRow w.heap.size 3 1 r k (dvs (dgn 65536 k (u + v))) := by
  obtain ⟨i0, hi, hz0, hz1, hz2⟩ : ∃ i, Try.prog.info? 3 = some i ∧ i.zero = some (.int .i64 0) ∧ i.size = 1 ∧ i.bytes = 8 := ⟨_, rfl, rfl, rfl, rfl⟩
  obtain ⟨ga, ca, rfl, -, -⟩ := ha.form
  obtain ⟨gb, cb, rfl, -, -⟩ := hb.form
  have HA := Lib.hid ha.cells
  have HB := Lib.hid hb.cells
  have HN := Lib.hid ha.2
  have HM := Lib.hid hb.2
  have hown0 : w.ownsRow w.heap.size 3 1 (.slice none 0 0) 0 (dvs (dgn 65536 0 (u + v))) := World.ownsRow_nil _ _ _ _
  clear ha hb
  go_enter Try.func44, Try.ntmps44
  go_wp2_with fail
  go_loopw [5, 6, 7] (fun x c i wr => ∃ j : Nat, j ≤ max n m + 1 ∧ i = .int .i64 j ∧ c = .int .i64 ((cry 65536 u v j : Nat) : Int) ∧ RAd w u v x j wr) (fun _ _ i _ => 300 - (intOf i).toNat)
  case atStart => exact ⟨0, by omega, rfl, by rw [cry_zero]; rfl, hown0, Below.refl _ _⟩
  case round =>
    obtain ⟨j, hj, rfl, rfl, hr⟩ := hrel
    have HOWN := Lib.hid hr.own
    have HBL := Lib.hid hr.bel
    have HJ := Lib.hid hj
    clear hr hown0 hj
    -- ROUND
    have HCZ := Lib.hid (show j = max n m + 1 → cry 65536 u v j = 0 from fun e => by
      rw [e]
      exact cry_top _ _ _ (Nat.lt_of_lt_of_le HN.out.1 (Nat.pow_le_pow_right (by decide) (Nat.le_max_left n m))) (Nat.lt_of_lt_of_le HM.out.1 (Nat.pow_le_pow_right (by decide) (Nat.le_max_right n m))))
    have hc1 := cry_le 65536 u v j (by decide)
    have hD := add_digit 65536 u v j (by decide)
    have hC := add_carry 65536 u v j (by decide)
    have hx := dig_lt 65536 (by decide) u j
    have hy := dig_lt 65536 (by decide) v j
    have hx0 := Lib.hid (show n ≤ j → u / 65536 ^ j % 65536 = 0 from fun h => dig_zero HN.out.1 (by decide) h)
    have hy0 := Lib.hid (show m ≤ j → v / 65536 ^ j % 65536 = 0 from fun h => dig_zero HM.out.1 (by decide) h)
    have hend := Lib.hid (show n ≤ j → m ≤ j → cry 65536 u v j = 0 → u + v < 65536 ^ j from fun h1 h2 h3 => add_ends HN.out.1 HM.out.1 (by decide) h1 h2 h3)
    have hS := dg_succ 65536 j (u + v)
    rw [hD] at hS
    have CA := Lib.hid (fun h => HA.out wr HBL.out j h)
    have CB := Lib.hid (fun h => HB.out wr HBL.out j h)
    generalize u / 65536 ^ j % 65536 = x at *
    generalize v / 65536 ^ j % 65536 = y at *
    generalize cry 65536 u v j = c at *
    have HNEXT := Lib.hid (show ∀ (x1 : Value) (w1 : World), w1.ownsRow w.heap.size 3 1 x1 (j + 1) (dvs (dgn 65536 j (u + v)) ++ [.int .i64 (((c + x + y : Nat) : Int) % 65536)]) → w1.ownsRow w.heap.size 3 1 x1 (j + 1) (dvs (dgn 65536 (j + 1) (u + v))) from by
      intro x1 w1 h
      rw [hS, dvs_app, Int.natCast_emod]
      exact h)
    have HC := Lib.hid hC
    clear hD hC hS
    have jn : (0 : Int) ≤ j := Int.natCast_nonneg j
    have jb : (j : Int) ≤ 200 := by have := HJ.out; have := HN.out.2.2; have := HM.out.2.2; omega
    have HML := Lib.hid (show j + 1 ≤ maxLen by have := HJ.out; have := HN.out.2.2; have := HM.out.2.2; unfold maxLen; omega)
    have HMB := Lib.hid (show (j + 1) * 8 ≤ 140737488355328 by have := HJ.out; have := HN.out.2.2; have := HM.out.2.2; omega)
    by_cases h1 : j < n
    · have j1 : (j : Int) < n := by omega
      have HLT := Lib.hid h1
      by_cases h2 : j < m
      · have j2 : (j : Int) < m := by omega
        have HGO := Lib.hid (show j < max n m + 1 by have := HLT.out; omega)
        have ca := CA.out (by omega)
        have cb := CB.out (by omega)
        obtain ⟨S, hSS⟩ : ∃ S : Nat, S = c + x + y := ⟨_, rfl⟩
        rw [← hSS] at HNEXT HC
        have qs : (c : Int) + (x : Int) + (y : Int) = (S : Int) := by omega
        have s1 : (S : Int) < 200000 := by omega
        have s0 : (0 : Int) ≤ (S : Int) := by omega
        have c0 : (0 : Int) ≤ (c : Int) := by omega
        have c1 : (c : Int) ≤ 1 := by omega
        have b1 : (x : Int) < 65536 := by omega
        have b0 : (0 : Int) ≤ (x : Int) := by omega
        have d1 : (y : Int) < 65536 := by omega
        have d0 : (0 : Int) ≤ (y : Int) := by omega
        clear hSS hx hy hc1
        have HAL := Lib.hid (HOWN.out.alloc (.cells #[.int .i64 ((S : Int) % 65536)] 3 (0, 0)))
        have hs0 : _ ≤ wr.heap.size := HBL.out.size
        go_wp2_with (at_builtin; refine wpList_append_own _ rfl (.tmp 46) (.tmp 49) 26 rfl _ 3 i0 (.int .i64 0) 1 8 Try.underlying26 hi hz0 hz1 hz2 rfl (by decide) _ _ _ rfl HAL.out ⟨wr.heap.size, 0, none⟩ 1 1 [.int .i64 ((S : Int) % 65536)] rfl rfl (one_cell wr _ _) (one_one _ rfl) HML.out HMB.out (le_alloc hs0 _) ?_)
        intro v1 w1 h1 h2 h3
        have HB1 := Lib.hid (below_app HBL.out _ _ _ _ _ HOWN.out h2)
        have HO1 := Lib.hid (HNEXT.out _ _ h1)
        clear h1 h2 h3 hs0
        go_wp2_with fail
        go_roundw
        case rel => exact ⟨j + 1, by have := HGO.out; omega, by go_num, by rw [HC.out]; go_num, HO1.out, HB1.out⟩
        case measure => simp [intOf]; have := HGO.out; have := HN.out.2.2; have := HM.out.2.2; omega
      · have j2 : ¬ (j : Int) < m := by omega
        have HGO := Lib.hid (show j < max n m + 1 by have := HLT.out; omega)
        have y0 : y = 0 := hy0.out (by omega)
        subst y0
        have ca := CA.out (by omega)
        obtain ⟨S, hSS⟩ : ∃ S : Nat, S = c + x + 0 := ⟨_, rfl⟩
        rw [← hSS] at HNEXT HC
        have qs : (c : Int) + (x : Int) = (S : Int) := by omega
        have s1 : (S : Int) < 200000 := by omega
        have s0 : (0 : Int) ≤ (S : Int) := by omega
        have c0 : (0 : Int) ≤ (c : Int) := by omega
        have c1 : (c : Int) ≤ 1 := by omega
        have b1 : (x : Int) < 65536 := by omega
        have b0 : (0 : Int) ≤ (x : Int) := by omega
        clear hSS hx hy hc1
        have HAL := Lib.hid (HOWN.out.alloc (.cells #[.int .i64 ((S : Int) % 65536)] 3 (0, 0)))
        have hs0 : _ ≤ wr.heap.size := HBL.out.size
        go_wp2_with (at_builtin; refine wpList_append_own _ rfl (.tmp 46) (.tmp 49) 26 rfl _ 3 i0 (.int .i64 0) 1 8 Try.underlying26 hi hz0 hz1 hz2 rfl (by decide) _ _ _ rfl HAL.out ⟨wr.heap.size, 0, none⟩ 1 1 [.int .i64 ((S : Int) % 65536)] rfl rfl (one_cell wr _ _) (one_one _ rfl) HML.out HMB.out (le_alloc hs0 _) ?_)
        intro v1 w1 h1 h2 h3
        have HB1 := Lib.hid (below_app HBL.out _ _ _ _ _ HOWN.out h2)
        have HO1 := Lib.hid (HNEXT.out _ _ h1)
        clear h1 h2 h3 hs0
        go_wp2_with fail
        go_roundw
        case rel => exact ⟨j + 1, by have := HGO.out; omega, by go_num, by rw [HC.out]; go_num, HO1.out, HB1.out⟩
        case measure => simp [intOf]; have := HGO.out; have := HN.out.2.2; have := HM.out.2.2; omega
    · have j1 : ¬ (j : Int) < n := by omega
      by_cases h2 : j < m
      · have j2 : (j : Int) < m := by omega
        have HLT := Lib.hid h2
        have HGO := Lib.hid (show j < max n m + 1 by have := HLT.out; omega)
        have x0 : x = 0 := hx0.out (by omega)
        subst x0
        have cb := CB.out (by omega)
        obtain ⟨S, hSS⟩ : ∃ S : Nat, S = c + 0 + y := ⟨_, rfl⟩
        rw [← hSS] at HNEXT HC
        have qs : (c : Int) + (y : Int) = (S : Int) := by omega
        have s1 : (S : Int) < 200000 := by omega
        have s0 : (0 : Int) ≤ (S : Int) := by omega
        have c0 : (0 : Int) ≤ (c : Int) := by omega
        have c1 : (c : Int) ≤ 1 := by omega
        have d1 : (y : Int) < 65536 := by omega
        have d0 : (0 : Int) ≤ (y : Int) := by omega
        clear hSS hx hy hc1
        have HAL := Lib.hid (HOWN.out.alloc (.cells #[.int .i64 ((S : Int) % 65536)] 3 (0, 0)))
        have hs0 : _ ≤ wr.heap.size := HBL.out.size
        go_wp2_with (at_builtin; refine wpList_append_own _ rfl (.tmp 46) (.tmp 49) 26 rfl _ 3 i0 (.int .i64 0) 1 8 Try.underlying26 hi hz0 hz1 hz2 rfl (by decide) _ _ _ rfl HAL.out ⟨wr.heap.size, 0, none⟩ 1 1 [.int .i64 ((S : Int) % 65536)] rfl rfl (one_cell wr _ _) (one_one _ rfl) HML.out HMB.out (le_alloc hs0 _) ?_)
        intro v1 w1 h1 h2 h3
        have HB1 := Lib.hid (below_app HBL.out _ _ _ _ _ HOWN.out h2)
        have HO1 := Lib.hid (HNEXT.out _ _ h1)
        clear h1 h2 h3 hs0
        go_wp2_with fail
        go_roundw
        case rel => exact ⟨j + 1, by have := HGO.out; omega, by go_num, by rw [HC.out]; go_num, HO1.out, HB1.out⟩
        case measure => simp [intOf]; have := HGO.out; have := HN.out.2.2; have := HM.out.2.2; omega
      · have j2 : ¬ (j : Int) < m := by omega
        by_cases h3 : c = 0
        · subst h3
          have he := Lib.hid (hend.out (by omega) (by omega) rfl)
          clear CA CB HNEXT HC
          go_wp2_with fail
          go_ret
          exact ⟨HBL.out, _, rfl, j, by omega, by omega, HJ.out, he.out, HOWN.out⟩
        · obtain rfl : c = 1 := by omega
          have HGO := Lib.hid (show j < max n m + 1 from by
            refine Nat.lt_of_le_of_ne HJ.out fun e => h3 (HCZ.out e))
          have x0 : x = 0 := hx0.out (by omega)
          subst x0
          have y0 : y = 0 := hy0.out (by omega)
          subst y0
          clear h3 hx hy hc1 hend HCZ CA CB hx0 hy0 HA HB
          rw [show ((1 : Nat) : Int) = 1 from rfl]
          have HAL := Lib.hid (HOWN.out.alloc (.cells #[.int .i64 1] 3 (0, 0)))
          have hs0 : _ ≤ wr.heap.size := HBL.out.size
          go_wp2_with (at_builtin; refine wpList_append_own _ rfl (.tmp 46) (.tmp 49) 26 rfl _ 3 i0 (.int .i64 0) 1 8 Try.underlying26 hi hz0 hz1 hz2 rfl (by decide) _ _ _ rfl HAL.out ⟨wr.heap.size, 0, none⟩ 1 1 [.int .i64 1] rfl rfl (one_cell wr _ _) (one_one _ rfl) HML.out HMB.out (le_alloc hs0 _) ?_)
          intro v1 w1 h1 h2 h3
          have HB1 := Lib.hid (below_app HBL.out _ _ _ _ _ HOWN.out h2)
          have HO1 := Lib.hid (HNEXT.out _ _ h1)
          clear h1 h2 h3 hs0
          go_wp2_with fail
          go_roundw
          case rel => exact ⟨j + 1, by have := HGO.out; omega, by go_num, by rw [HC.out]; rfl, HO1.out, HB1.out⟩
          case measure => simp [intOf]; have := HGO.out; have := HN.out.2.2; have := HM.out.2.2; omega
end Go.Proofs.Ythlmphloalbhnaa

/-
  mailsackref03.times: the walk.
-/
namespace Go.Proofs.Ythlmphloalbhnaa
open Go.RowKit MS

/-- A row of digits of the call's own. -/
structure TSt (g N : Nat) (w0 : World) (l : List Nat) (w : World) : Prop where
  own : w.ownsRow w0.heap.size 3 1 (.slice (some ⟨g, 0, none⟩) N N) N (dvs l)
  bel : Below w0.heap.size w0 w
theorem TSt.drewN {g N : Nat} {w0 w : World} {l : List Nat} (h : TSt g N w0 l w) (k : Nat) : TSt g N w0 l (w.drewN k) := ⟨h.own, below_drewN h.bel k⟩
theorem TSt.cell {g N : Nat} {w0 w : World} {l : List Nat} (h : TSt g N w0 l w) (j x : Nat) (hj : j < N) (hx : l[j]? = some x) : w.cell? ⟨g, j, none⟩ = some (.int .i64 (x : Int)) := by
  rw [h.own.cellAt j (by omega), dvs, List.getElem?_map, hx]
  rfl
theorem TSt.free {g N : Nat} {w0 w : World} {l : List Nat} (h : TSt g N w0 l w) (j : Nat) : w.frozen? ⟨g, j, none⟩ = false := h.own.frozenAt j
theorem TSt.put {g N : Nat} {w0 w : World} {l : List Nat} (h : TSt g N w0 l w) (j x : Nat) (v : Value) (hv : v = .int .i64 (x : Int)) : TSt g N w0 (l.set j x) (w.setCell ⟨g, j, none⟩ v) := by
  subst hv
  refine ⟨?_, h.bel.setCell ((own_cap h.own).2.2.1) _⟩
  have := (h.own.stored j (.int .i64 (x : Int))).1
  rwa [show (dvs l).set j (.int .i64 (x : Int)) = dvs (l.set j x) by simp [dvs, List.map_set]] at this

theorem made_zeros (N : Nat) : (madeCells #[.int .i64 0] N).toList = dvs (dgn 65536 N 0) := by
  apply List.ext_getElem?
  intro j
  rw [dg_zero, dvs, List.getElem?_map, List.getElem?_replicate]
  by_cases h : j < N
  · simp [madeCells, h, Nat.mod_one]
  · simp [madeCells, h]
theorem natmod (S : Nat) : Value.int .i64 ((S : Int) % 65536) = .int .i64 ((S % 65536 : Nat) : Int) := rfl

set_option maxRecDepth 1000000 in
set_option maxHeartbeats 2000000 in
theorem rtimes_any (n m u v : Nat) (va vb : Value) (ba bb : Nat) (w : World) (ha : DS w ba va n u) (hb : DS w bb vb m v) :
    Calls Try.prog 43 #[va, vb] w fun e w' => Below w.heap.size w w' ∧ ∃ r, e = .returned r ∧ w'.ownsRow w.heap.size 3 1 r (n + m) (dvs (dgn 65536 (n + m) (u * v))) := by
  obtain ⟨i0, hi, hz0, hz1, hz2⟩ : ∃ i, Try.prog.info? 3 = some i ∧ i.zero = some (.int .i64 0) ∧ i.size = 1 ∧ i.bytes = 8 := ⟨_, rfl, rfl, rfl, rfl⟩
  obtain ⟨ga, ca, rfl, -, -⟩ := ha.form
  obtain ⟨gb, cb, rfl, -, -⟩ := hb.form
  have HA := Lib.hid ha.cells
  have HB := Lib.hid hb.cells
  have HN := Lib.hid ha.2
  have HM := Lib.hid hb.2
  have hn1 : (n : Int) ≤ 100 := by have := HN.out.2.2; omega
  have hm1 : (m : Int) ≤ 100 := by have := HM.out.2.2; omega
  have hn0 : (0 : Int) ≤ n := by omega
  have hm0 : (0 : Int) ≤ m := by omega
  have hy2 : i0.bytes * (n + m) ≤ 281474976710656 := by rw [hz2]; omega
  have hy3 : n + m ≤ maxLen := by unfold maxLen; omega
  clear ha hb
  go_enter Try.func43, Try.ntmps43
  go_wp2_with (at_make; refine wpList_make_full w rfl (.tmp 14) (.tmp 14) 26 rfl w.heap.size 3 i0 (.int .i64 0) 1 Try.underlying26 hi hz0 hz1 .i64 .i64 ((n : Int) + (m : Int)) ((n : Int) + (m : Int)) (n + m) rfl rfl (Int.natCast_add n m).symm (Int.natCast_add n m).symm hy2 hy3 (Nat.le_refl _) ?_)
  intro w1 h1 h2
  rw [made_zeros] at h1
  have T0 := Lib.hid (show TSt w.heap.size (n + m) w (dgn 65536 (n + m) (u % 65536 ^ 0 * v)) w1 from ⟨by rw [Nat.pow_zero, Nat.mod_one, Nat.zero_mul]; exact h1, (Below.refl w.heap.size w).grown h2 (Nat.le_refl _) (fun k hk => by cases hk)⟩)
  have HNM := Lib.hid (show ∃ N, N = n + m from ⟨_, rfl⟩)
  obtain ⟨N, hNM⟩ := HNM.out
  rw [← hNM] at T0
  rw [← hNM]
  have HG := Lib.hid hNM
  generalize hg : w.heap.size = g at T0 ⊢
  have HGG := Lib.hid hg
  clear h1 h2 hy2 hy3 HNM hNM hg
  have nN : (N : Int) ≤ 200 := by have := HG.out; omega
  go_wp2_with fail
  go_loopw [6] (fun i wr => ∃ j : Nat, j ≤ n ∧ i = .int .i64 j ∧ TSt g N w (dgn 65536 N (u % 65536 ^ j * v)) wr) (fun i _ => 300 - (intOf i).toNat)
  case atStart => exact ⟨0, by omega, rfl, T0.out⟩
  case round =>
    obtain ⟨j, hj, rfl, hr⟩ := hrel
    have R1 := Lib.hid hr
    have HJ := Lib.hid hj
    clear hr hj T0
    by_cases hlt : j < n
    · have j1 : (j : Int) < n := by omega
      have j0 : (0 : Int) ≤ j := by omega
      have HLT := Lib.hid hlt
      have hx := dig_lt 65536 (by decide) u j
      have HX := Lib.hid (fun wr h => HA.out wr h j hlt)
      have hS0 := trow_zero 65536 N u v j (by have := HG.out; omega)
      have HC0 := Lib.hid (tsum_c0 65536 u v j (by decide))
      have R2 := R1.out
      rw [← hS0] at R2
      have R3 := Lib.hid R2
      clear R1 R2 hS0 hlt
      go_wp2_with fail
      obtain ⟨wo, rfl⟩ : ∃ wo : World, wo = wr := ⟨_, rfl⟩
      go_loopw [7, 8] (fun c i wr => ∃ k : Nat, k ≤ m ∧ i = .int .i64 k ∧ c = .int .i64 ((tsum 65536 u v j k / 65536 ^ (j + k) : Nat) : Int) ∧ TSt g N w (trow 65536 N u v j k) wr) (fun _ i _ => 300 - (intOf i).toNat)
      case atStart => exact ⟨0, by omega, rfl, by rw [HC0.out]; rfl, R3.out⟩
      case round =>
        obtain ⟨k, hk, rfl, rfl, hr⟩ := hrel
        have R4 := Lib.hid hr
        have HK := Lib.hid hk
        have hc := tsum_c_lt 65536 u v j k (by decide)
        have hL := trow_get 65536 N u v j k (j + k) (Nat.le_refl _) (by have := HG.out; have := HLT.out; have := HM.out.2.1; omega)
        clear hr hk R3
        by_cases hlt : k < m
        · have k1 : (k : Int) < m := by omega
          have k0 : (0 : Int) ≤ k := by omega
          have HLK := Lib.hid hlt
          have hpN : j + k < N := by have := HG.out; have := HLT.out; omega
          have hy := dig_lt 65536 (by decide) v k
          have cx := HX.out wr R4.out.bel
          have cy := HB.out wr R4.out.bel k hlt
          have hd := tsum_digit 65536 u v j k (by decide)
          have hcc := tsum_carry 65536 u v j k (by decide)
          have hl := dig_lt 65536 (by decide) (u % 65536 ^ j * v) (j + k)
          have hset := trow_set 65536 N u v j k hpN
          rw [hd] at hset
          have cl := R4.out.cell (j + k) _ hpN hL
          have fl := R4.out.free (j + k)
          have HST := Lib.hid (show ∀ kk : Nat, ∀ x : Value, x = .int .i64 (((tsum 65536 u v j k / 65536 ^ (j + k) + (u % 65536 ^ j * v / 65536 ^ (j + k) % 65536 + u / 65536 ^ j % 65536 * (v / 65536 ^ k % 65536))) % 65536 : Nat) : Int) → TSt g N w (trow 65536 N u v j (k + 1)) ((wr.drewN kk).setCell ⟨g, j + k, none⟩ x) from fun kk x hx => by
            rw [← hset]
            exact (R4.out.drewN kk).put (j + k) _ x hx)
          have HCC := Lib.hid hcc
          clear hcc hset hd hL HX R4
          generalize u / 65536 ^ j % 65536 = x at *
          generalize v / 65536 ^ k % 65536 = y at *
          generalize tsum 65536 u v j k / 65536 ^ (j + k) = c at *
          generalize u % 65536 ^ j * v / 65536 ^ (j + k) % 65536 = l at *
          have hP : x * y ≤ 65535 * 65535 := Nat.mul_le_mul (by omega) (by omega)
          obtain ⟨P, hPP⟩ : ∃ P : Nat, P = x * y := ⟨_, rfl⟩
          rw [← hPP] at hP HST HCC
          have qP : (x : Int) * (y : Int) = (P : Int) := by rw [hPP]; exact (Int.natCast_mul x y).symm
          obtain ⟨S, hSS⟩ : ∃ S : Nat, S = c + (l + P) := ⟨_, rfl⟩
          rw [← hSS] at HST HCC
          have qS : (l : Int) + (P : Int) + (c : Int) = (S : Int) := by omega
          have qS2 : (l : Int) + (P : Int) ≤ 4294967296 := by omega
          have S1 : (S : Int) ≤ 4295098368 := by omega
          have S0 : (0 : Int) ≤ (S : Int) := by omega
          have P1 : (P : Int) ≤ 4294836225 := by omega
          have P0 : (0 : Int) ≤ (P : Int) := by omega
          have l1 : (l : Int) < 65536 := by omega
          have l0 : (0 : Int) ≤ (l : Int) := by omega
          obtain ⟨p, hp⟩ : ∃ p : Nat, p = j + k := ⟨_, rfl⟩
          rw [← hp] at cl fl HST
          have qp : (j : Int) + (k : Int) = (p : Int) := by omega
          have p1 : (p : Int) < N := by omega
          have p0 : (0 : Int) ≤ (p : Int) := by omega
          have kb : (k : Int) ≤ 100 := by omega
          clear hSS hPP hP hp hpN hx hy hc hl hlt
          go_wp2_with fail
          go_quiet (fail)
          have HS2 := Lib.hid (HST.out nq _ (natmod S))
          have f2 : (wr.drewN nq).frozen? ⟨g, p, none⟩ = false := fl
          have c2 : (wr.drewN nq).cell? ⟨g, p, none⟩ = some (.int .i64 (l : Int)) := cl
          clear fl cl cx cy HST
          generalize wr.drewN nq = wq at *
          go_wp2_with fail
          go_roundw
          case rel => exact ⟨k + 1, by have := HLK.out; omega, by go_num, by rw [HCC.out]; go_num, HS2.out⟩
          case measure => simp [intOf]; have := HLK.out; have := HM.out.2.2; omega
        · have k1 : ¬ (k : Int) < m := by omega
          have hkm : k = m := by have := HK.out; omega
          subst hkm
          have hlast := trow_last 65536 N u v j k (by decide) HM.out.1 (by have := HG.out; have := HLT.out; omega)
          have hpN : j + k < N := by have := HG.out; have := HLT.out; omega
          have hl := dig_lt 65536 (by decide) (u % 65536 ^ j * v) (j + k)
          have cl := R4.out.cell (j + k) _ hpN hL
          have fl := R4.out.free (j + k)
          have HST := Lib.hid (show ∀ x : Value, x = .int .i64 (((u % 65536 ^ j * v / 65536 ^ (j + k) % 65536 + tsum 65536 u v j k / 65536 ^ (j + k) : Nat)) : Int) → TSt g N w (dgn 65536 N (u % 65536 ^ (j + 1) * v)) (wr.setCell ⟨g, j + k, none⟩ x) from fun x hx => by
            rw [← hlast]
            exact R4.out.put (j + k) _ x hx)
          clear hlast hL R4
          generalize tsum 65536 u v j k / 65536 ^ (j + k) = c at *
          generalize u % 65536 ^ j * v / 65536 ^ (j + k) % 65536 = l at *
          have c1 : (c : Int) < 65536 := by omega
          have c0 : (0 : Int) ≤ (c : Int) := by omega
          have l1 : (l : Int) < 65536 := by omega
          have l0 : (0 : Int) ≤ (l : Int) := by omega
          obtain ⟨p, hp⟩ : ∃ p : Nat, p = j + k := ⟨_, rfl⟩
          rw [← hp] at cl fl HST
          have qp : (j : Int) + (k : Int) = (p : Int) := by omega
          have p1 : (p : Int) < N := by omega
          have p0 : (0 : Int) ≤ (p : Int) := by omega
          have kb : (k : Int) ≤ 100 := by omega
          have HS2 := Lib.hid (HST.out (.int .i64 ((l : Int) + (c : Int))) (by rw [Int.natCast_add]))
          clear hp hpN hc hl hlt HST hx HX
          go_wp2_with fail
          go_roundw
          case rel => exact ⟨j + 1, by have := HLT.out; omega, by go_num, HS2.out⟩
          case measure => simp [intOf]; have := HLT.out; have := HN.out.2.2; omega
    · have j1 : ¬ (j : Int) < n := by omega
      have hjn : j = n := by have := HJ.out; omega
      subst hjn
      have R9 := R1.out
      rw [Nat.mod_eq_of_lt HN.out.1] at R9
      have HB9 := Lib.hid R9.bel
      have HO9 := Lib.hid R9.own
      clear R9 R1 hlt
      go_wp2_with fail
      go_ret
      exact ⟨HB9.out, _, rfl, by rw [← HG.out]; exact HO9.out⟩
end Go.Proofs.Ythlmphloalbhnaa

/-
  mailsackref03.Prime, below, minus: the walks.
-/
namespace Go.Proofs.Ythlmphloalbhnaa
open Go.RowKit MS

theorem prime_digits : dgn 65536 16 Q' = 65517 :: List.replicate 14 65535 ++ [32767] := by decide +kernel
set_option maxRecDepth 1000000 in
set_option maxHeartbeats 1000000 in
theorem rprime_any (w : World) : Calls Try.prog 46 #[] w fun e w' => Below w.heap.size w w' ∧ ∃ r, e = .returned r ∧ w'.ownsRow w.heap.size 3 1 r 16 (dvs (dgn 65536 16 Q')) := by
  obtain ⟨i0, hi, hz0, hz1, hz2⟩ : ∃ i, Try.prog.info? 3 = some i ∧ i.zero = some (.int .i64 0) ∧ i.size = 1 ∧ i.bytes = 8 := ⟨_, rfl, rfl, rfl, rfl⟩
  have h0 := World.ownsRow_lit (base := w.heap.size) (e := 3) (size := 1) w #[.int .i64 65517] 1 (Nat.le_refl _) (by decide) rfl
  have O0 := Lib.hid (show (w.alloc (.cells #[.int .i64 65517] 3 (0, 0))).ownsRow w.heap.size 3 1 (.slice (some ⟨w.heap.size, 0, none⟩) 1 1) (0 + 1) (dvs (65517 :: List.replicate 0 65535)) from h0)
  clear h0
  go_enter Try.func46, Try.ntmps46
  go_wp2_with fail
  go_loopw [1, 2] (fun v i wr => ∃ j : Nat, j ≤ 14 ∧ i = .int .i64 j ∧ wr.ownsRow w.heap.size 3 1 v (j + 1) (dvs (65517 :: List.replicate j 65535)) ∧ Below w.heap.size w wr) (fun _ i _ => 14 - (intOf i).toNat)
  case atStart => exact ⟨0, by omega, rfl, O0.out, (Below.refl _ _).alloc (Nat.le_refl _) _⟩
  case round =>
    obtain ⟨j, hj, rfl, ho, hb⟩ := hrel
    have HO := Lib.hid ho
    have HB := Lib.hid hb
    have HJ := Lib.hid hj
    clear ho hb hj O0
    have hs0 : _ ≤ wr.heap.size := HB.out.size
    by_cases hlt : j < 14
    · have j1 : (j : Int) < 14 := by omega
      have j0 : (0 : Int) ≤ j := by omega
      have HLT := Lib.hid hlt
      have HML := Lib.hid (show j + 1 + 1 ≤ maxLen by unfold maxLen; omega)
      have HMB := Lib.hid (show (j + 1 + 1) * 8 ≤ 140737488355328 by omega)
      have HAL := Lib.hid (HO.out.alloc (.cells #[.int .i64 65535] 3 (0, 0)))
      clear hlt
      go_wp2_with (at_builtin; refine wpList_append_own _ rfl (.tmp 8) (.tmp 9) 26 rfl _ 3 i0 (.int .i64 0) 1 8 Try.underlying26 hi hz0 hz1 hz2 rfl (by decide) _ _ _ rfl HAL.out ⟨wr.heap.size, 0, none⟩ 1 1 [.int .i64 65535] rfl rfl (one_cell wr _ _) (one_one _ rfl) HML.out HMB.out (le_alloc hs0 _) ?_)
      intro v1 w1 h1 h2 h3
      have HB1 := Lib.hid (below_app HB.out _ _ _ _ _ HO.out h2)
      rw [show dvs (65517 :: List.replicate j 65535) ++ [.int .i64 65535] = dvs (65517 :: List.replicate (j + 1) 65535) by rw [List.replicate_succ']; simp [dvs]] at h1
      have HO1 := Lib.hid h1
      clear h1 h2 h3 hs0
      go_wp2_with fail
      go_roundw
      case rel => exact ⟨j + 1, HLT.out, by go_num, HO1.out, HB1.out⟩
      case measure => simp [intOf]; omega
    · have j1 : ¬ (j : Int) < 14 := by omega
      have hj14 : j = 14 := by have := HJ.out; omega
      subst hj14
      have HAL := Lib.hid (HO.out.alloc (.cells #[.int .i64 32767] 3 (0, 0)))
      clear hlt
      go_wp2_with (at_builtin; refine wpList_append_own _ rfl (.tmp 11) (.tmp 12) 26 rfl _ 3 i0 (.int .i64 0) 1 8 Try.underlying26 hi hz0 hz1 hz2 rfl (by decide) _ _ _ rfl HAL.out ⟨wr.heap.size, 0, none⟩ 1 1 [.int .i64 32767] rfl rfl (one_cell wr _ _) (one_one _ rfl) (by decide) (by decide) (le_alloc hs0 _) ?_)
      intro v1 w1 h1 h2 h3
      have HB1 := Lib.hid (below_app HB.out _ _ _ _ _ HO.out h2)
      have HO1 := Lib.hid (show w1.ownsRow w.heap.size 3 1 v1 16 (dvs (dgn 65536 16 Q')) by rw [prime_digits]; exact h1)
      clear h1 h2 h3 hs0
      go_wp2_with fail
      go_ret
      exact ⟨HB1.out, _, rfl, HO1.out⟩

set_option maxRecDepth 1000000 in
set_option maxHeartbeats 1000000 in
theorem rbelow_any (u v : Nat) (va vb : Value) (ba bb : Nat) (w : World) (ha : DS w ba va 16 u) (hb : DS w bb vb 16 v) :
    Calls Try.prog 54 #[va, vb] w fun e w' => e = .returned (.bool (decide (u < v))) ∧ Below w.heap.size w w' := by
  obtain ⟨ga, ca, rfl, -, -⟩ := ha.form
  obtain ⟨gb, cb, rfl, -, -⟩ := hb.form
  have HA := Lib.hid ha.cells
  have HB := Lib.hid hb.cells
  have HT := Lib.hid (show u / 65536 ^ 16 = v / 65536 ^ 16 by rw [Nat.div_eq_of_lt ha.2.1, Nat.div_eq_of_lt hb.2.1])
  clear ha hb
  generalize hbd : decide (u < v) = bd
  have HD := Lib.hid hbd
  clear hbd
  go_enter Try.func54, Try.ntmps54
  go_wp2_with fail
  go_loopw [5] (fun i wr => ∃ t : Nat, t ≤ 16 ∧ i = .int .i64 ((t : Int) - 1) ∧ u / 65536 ^ t = v / 65536 ^ t ∧ Below w.heap.size w wr) (fun i _ => (intOf i + 1).toNat)
  case atStart => exact ⟨16, by omega, rfl, HT.out, Below.refl _ _⟩
  case round =>
    obtain ⟨t, ht, rfl, he, hbl⟩ := hrel
    have HBL := Lib.hid hbl
    have HE := Lib.hid he
    clear hbl he HT
    cases t with
    | zero =>
      have hz : ((0 : Nat) : Int) - 1 = -1 := rfl
      rw [hz]
      have hd : false = bd := by
        have := HE.out
        rw [Nat.pow_zero, Nat.div_one, Nat.div_one] at this
        rw [← HD.out]
        exact (decide_eq_false (by omega)).symm
      have HF := Lib.hid hd
      clear hz hd
      go_wp2_with fail
      go_ret
      exact ⟨by rw [← HF.out]; rfl, HBL.out⟩
    | succ i =>
      rw [show ((i + 1 : Nat) : Int) - 1 = (i : Int) by omega]
      have i1 : (i : Int) < 16 := by omega
      have i0 : (0 : Int) ≤ i := by omega
      have cx := HA.out wr HBL.out i (by omega)
      have cy := HB.out wr HBL.out i (by omega)
      have H1 := Lib.hid (show u / 65536 ^ i % 65536 < v / 65536 ^ i % 65536 → u < v from lt_of_digit (by decide) HE.out)
      have H2 := Lib.hid (show v / 65536 ^ i % 65536 < u / 65536 ^ i % 65536 → v < u from lt_of_digit (by decide) HE.out.symm)
      have H3 := Lib.hid (show u / 65536 ^ i % 65536 = v / 65536 ^ i % 65536 → u / 65536 ^ i = v / 65536 ^ i from div_of_digit HE.out)
      clear HE
      generalize u / 65536 ^ i % 65536 = x at *
      generalize v / 65536 ^ i % 65536 = y at *
      by_cases hxy : x = y
      · subst hxy
        have HR := Lib.hid (H3.out rfl)
        clear H1 H2 H3
        go_wp2_with fail
        go_quiet (fail)
        have HQ := Lib.hid (below_drewN HBL.out nq)
        clear cx cy
        generalize wr.drewN nq = wq at *
        go_wp2_with fail
        go_roundw
        case rel => exact ⟨i, by omega, by go_num, HR.out, HQ.out⟩
        case measure => simp [intOf]
      · have hne : ¬ (x : Int) = (y : Int) := by omega
        have hd : decide (x < y) = bd := by
          rw [← HD.out]
          by_cases hl : x < y
          · rw [decide_eq_true hl, decide_eq_true (H1.out hl)]
          · have := H2.out (by omega)
            rw [decide_eq_false hl, decide_eq_false (by omega)]
        have HF := Lib.hid hd
        clear hd hxy H1 H2 H3
        go_wp2_with fail
        go_quiet (fail)
        have d1 : (wr.drewN nq).cell? ⟨ga, i, none⟩ = some (.int .i64 (x : Int)) := cx
        have d2 : (wr.drewN nq).cell? ⟨gb, i, none⟩ = some (.int .i64 (y : Int)) := cy
        have HQ := Lib.hid (below_drewN HBL.out nq)
        clear cx cy
        generalize wr.drewN nq = wq at *
        go_wp2_with fail
        go_quiet (fail)
        have HQ2 := Lib.hid (below_drewN HQ.out nq)
        generalize wq.drewN nq = wz at *
        go_wp2_with fail
        go_ret
        exact ⟨by rw [← HF.out]; rfl, HQ2.out⟩
end Go.Proofs.Ythlmphloalbhnaa

/-
  mailsackref03.minus: the walk.
-/
namespace Go.Proofs.Ythlmphloalbhnaa
open Go.RowKit MS

set_option maxRecDepth 1000000 in
set_option maxHeartbeats 2000000 in
theorem rminus_any (u v : Nat) (va vb : Value) (ba bb : Nat) (w : World) (ha : DS w ba va 16 u) (hb : DS w bb vb 16 v) (hvu : v ≤ u) :
    Calls Try.prog 45 #[va, vb] w fun e w' => Below w.heap.size w w' ∧ ∃ r, e = .returned r ∧ w'.ownsRow w.heap.size 3 1 r 16 (dvs (dgn 65536 16 (u - v))) := by
  obtain ⟨i0, hi, hz0, hz1, hz2⟩ : ∃ i, Try.prog.info? 3 = some i ∧ i.zero = some (.int .i64 0) ∧ i.size = 1 ∧ i.bytes = 8 := ⟨_, rfl, rfl, rfl, rfl⟩
  obtain ⟨ga, ca, rfl, -, -⟩ := ha.form
  obtain ⟨gb, cb, rfl, -, -⟩ := hb.form
  have HA := Lib.hid ha.cells
  have HB := Lib.hid hb.cells
  have HVU := Lib.hid hvu
  have hown0 : w.ownsRow w.heap.size 3 1 (.slice none 0 0) 0 (dvs (dgn 65536 0 (u - v))) := World.ownsRow_nil _ _ _ _
  clear ha hb hvu
  go_enter Try.func45, Try.ntmps45
  go_wp2_with fail
  go_loopw [5, 6, 7] (fun x c i wr => ∃ j : Nat, j ≤ 16 ∧ i = .int .i64 j ∧ c = .int .i64 ((lent 65536 u v j : Nat) : Int) ∧ wr.ownsRow w.heap.size 3 1 x j (dvs (dgn 65536 j (u - v))) ∧ Below w.heap.size w wr) (fun _ _ i _ => 16 - (intOf i).toNat)
  case atStart => exact ⟨0, by omega, rfl, by rw [lent_zero]; rfl, hown0, Below.refl _ _⟩
  case round =>
    obtain ⟨j, hj, rfl, rfl, ho, hbl⟩ := hrel
    have HOWN := Lib.hid ho
    have HBL := Lib.hid hbl
    have HJ := Lib.hid hj
    clear ho hbl hown0 hj
    by_cases hlt : j < 16
    · have j1 : (j : Int) < 16 := by omega
      have j0 : (0 : Int) ≤ j := by omega
      have HLT := Lib.hid hlt
      have hx := dig_lt 65536 (by decide) u j
      have hy := dig_lt 65536 (by decide) v j
      have hd := dig_lt 65536 (by decide) (u - v) j
      have hS := sub_digit 65536 u v j (by decide) HVU.out
      have hL := lent_step 65536 u v j (by decide)
      have hD := dg_succ 65536 j (u - v)
      have hl1 : lent 65536 u v j ≤ 1 := by unfold lent; split <;> omega
      have cx := HA.out wr HBL.out j hlt
      have cy := HB.out wr HBL.out j hlt
      generalize u / 65536 ^ j % 65536 = x at *
      generalize v / 65536 ^ j % 65536 = y at *
      generalize (u - v) / 65536 ^ j % 65536 = d at *
      generalize lent 65536 u v j = l at *
      have HNEXT := Lib.hid (show ∀ (x1 : Value) (w1 : World), w1.ownsRow w.heap.size 3 1 x1 (j + 1) (dvs (dgn 65536 j (u - v)) ++ [.int .i64 (d : Int)]) → w1.ownsRow w.heap.size 3 1 x1 (j + 1) (dvs (dgn 65536 (j + 1) (u - v))) from by
        intro x1 w1 h
        rw [hD, dvs_app]
        exact h)
      have HL := Lib.hid hL
      have HML := Lib.hid (show j + 1 ≤ maxLen by unfold maxLen; omega)
      have HMB := Lib.hid (show (j + 1) * 8 ≤ 140737488355328 by omega)
      have x1 : (x : Int) < 65536 := by omega
      have x0 : (0 : Int) ≤ (x : Int) := by omega
      have y1 : (y : Int) < 65536 := by omega
      have y0 : (0 : Int) ≤ (y : Int) := by omega
      have l1 : (l : Int) ≤ 1 := by omega
      have l0 : (0 : Int) ≤ (l : Int) := by omega
      have d1 : (d : Int) < 65536 := by omega
      have d0 : (0 : Int) ≤ (d : Int) := by omega
      obtain ⟨t0, e0⟩ : ∃ t0 : Int, (x : Int) - (y : Int) = t0 := ⟨_, rfl⟩
      have t1 : t0 ≤ 65536 := by omega
      have t2 : -65536 ≤ t0 := by omega
      by_cases hn : x < y + l
      case' pos =>
        have e1 : lent 65536 u v (j + 1) = 1 := by rw [hL, if_pos hn]
        obtain ⟨t, e2⟩ : ∃ t : Int, t0 - (l : Int) = t := ⟨_, rfl⟩
        have en : t < 0 := by omega
        have en1 : -65537 ≤ t := by omega
        have es : t + 65536 = (d : Int) := by rw [e1] at hS; omega
        have HE := Lib.hid (show ((lent 65536 u v (j + 1) : Nat) : Int) = 1 by rw [e1]; rfl)
        have hb := Lib.hid (decide_eq_true en)
      case' neg =>
        have e1 : lent 65536 u v (j + 1) = 0 := by rw [hL, if_neg hn]
        have es : t0 - (l : Int) = (d : Int) := by rw [e1] at hS; omega
        have en : ¬ (d : Int) < 0 := by omega
        have HE := Lib.hid (show ((lent 65536 u v (j + 1) : Nat) : Int) = 0 by rw [e1]; rfl)
        have hb := Lib.hid (decide_eq_false en)
      all_goals
        clear e1 hn hx hy hd hS hL hD hl1 hlt HL
        go_upto_region 6 with fail
        go_quiet (fail)
        have HO2 := Lib.hid (show (wr.drewN nq).ownsRow _ _ _ _ _ _ from HOWN.out)
        have HQ := Lib.hid (below_drewN HBL.out nq)
        clear cx cy
        generalize wr.drewN nq = wq at *
        have hs0 : _ ≤ wq.heap.size := HQ.out.size
        have HAL := Lib.hid (HO2.out.alloc (.cells #[.int .i64 (d : Int)] 3 (0, 0)))
        clear e0 x1 x0 y1 y0 l1 l0 t1 t2 en
        go_upto_region 8 with fail
        have hb2 := hb.out
        go_upto_region 11 with fail
        go_wp2_with (at_builtin; refine wpList_append_own _ rfl (.tmp 28) (.tmp 30) 26 rfl _ 3 i0 (.int .i64 0) 1 8 Try.underlying26 hi hz0 hz1 hz2 rfl (by decide) _ _ _ rfl HAL.out ⟨wq.heap.size, 0, none⟩ 1 1 [.int .i64 (d : Int)] rfl rfl (one_cell wq _ _) (one_one _ rfl) HML.out HMB.out (le_alloc hs0 _) ?_)
        intro v1 w1 h1 h2 h3
        have HB1 := Lib.hid (below_app HQ.out _ _ _ _ _ HO2.out h2)
        have HO1 := Lib.hid (HNEXT.out _ _ h1)
        clear h1 h2 h3 hs0
        go_wp2_with fail
        go_roundw
        case rel => exact ⟨j + 1, HLT.out, by go_num, by rw [HE.out], HO1.out, HB1.out⟩
        case measure => simp [intOf]; omega
    · have j1 : ¬ (j : Int) < 16 := by omega
      have hj16 : j = 16 := by have := HJ.out; omega
      subst hj16
      clear hlt
      go_wp2_with fail
      go_ret
      exact ⟨HBL.out, _, rfl, HOWN.out⟩
end Go.Proofs.Ythlmphloalbhnaa

/-
  mailsackref03.Reduce: plain lemmas, and what its walk keeps.
-/
namespace Go.Proofs.Ythlmphloalbhnaa
open Go.RowKit MS

/-- The number that a slice of digits holds. -/
def sumD (f : Nat → Nat) : Nat → Nat
  | 0 => 0
  | n + 1 => sumD f n + 65536 ^ n * f n
theorem sumD_congr {f h : Nat → Nat} (n : Nat) (hf : ∀ i, i < n → f i = h i) : sumD f n = sumD h n := by
  induction n with
  | zero => rfl
  | succ n ih => rw [sumD, sumD, ih (fun i hi => hf i (by omega)), hf n (by omega)]
theorem sumD_dig (u n : Nat) : sumD (fun i => u / 65536 ^ i % 65536) n = u % 65536 ^ n := by
  induction n with
  | zero => simp [sumD, Nat.mod_one]
  | succ n ih => rw [sumD, ih, mod_succ]
def cellN (w : World) (a : Addr) : Nat := match w.cell? a with
  | some (.int _ x) => x.toNat
  | _ => 0
def numOf (w : World) : Value → Nat
  | .slice (some a) n _ => sumD (fun i => cellN w ⟨a.block, i, none⟩) n
  | _ => 0
def lenOf : Value → Nat
  | .slice _ n _ => n
  | _ => 0
theorem DS.num {w : World} {base n u : Nat} {v : Value} (h : DS w base v n u) : numOf w v = u := by
  obtain ⟨g, cap, rfl, -, -⟩ := h.form
  rw [numOf, sumD_congr (h := fun i => u / 65536 ^ i % 65536) n (fun i hi => by show cellN w ⟨g, i, none⟩ = _; rw [cellN, h.cell i hi]; exact Int.toNat_natCast _), sumD_dig, Nat.mod_eq_of_lt h.2.1]
theorem DS.len {w : World} {base n u : Nat} {v : Value} (h : DS w base v n u) : lenOf v = n := by
  obtain ⟨g, cap, rfl, -, -⟩ := h.form
  rfl
def redM (v : Value) (w : World) : Nat := 2 * numOf w v + if lenOf v > 16 then 1 else 0
/-- Cut at its end. -/
theorem own_take {w : World} {base g n cap m : Nat} {e : TypeId} {xs : List Value} (h : w.ownsRow base e 1 (.slice (some ⟨g, 0, none⟩) n cap) n xs) (hm : m ≤ n) : w.ownsRow base e 1 (.slice (some ⟨g, 0, none⟩) m cap) m (xs.take m) := by
  rcases h.2 with ⟨h', _⟩ | ⟨g', cap', cur, h', hb, hg, hnc, hcm, hcs, htake⟩
  · simp at h'
  · simp only [Value.slice.injEq, Option.some.injEq, Addr.mk.injEq, and_true, true_and] at h'
    obtain ⟨rfl, rfl⟩ := h'
    have hl := h.1
    refine ⟨by rw [List.length_take]; omega, .inr ⟨g, cap, cur, rfl, hb, hg, by omega, hcm, hcs, ?_⟩⟩
    rw [← htake, List.take_take]
    congr 1
    omega
theorem dgn_take (B n m u : Nat) (h : m ≤ n) : (dgn B n u).take m = dgn B m u := by
  apply List.ext_getElem?
  intro i
  rw [List.getElem?_take]
  by_cases hi : i < m
  · rw [if_pos hi, dg_get _ _ _ _ hi, dg_get _ _ _ _ (by omega)]
  · rw [if_neg hi, List.getElem?_eq_none (by rw [length_dgn]; omega)]
theorem dvs_take (l : List Nat) (m : Nat) : (dvs l).take m = dvs (l.take m) := by simp [dvs, List.map_take]
/-- The row low behind j rounds. -/
def lowL (u j : Nat) : List Nat := (List.range 16).map fun p => if p < j then lo255 u / 65536 ^ p % 65536 else 0
theorem length_lowL (u j : Nat) : (lowL u j).length = 16 := by simp [lowL]
theorem lowL_get (u j p : Nat) (h : p < 16) : (lowL u j)[p]? = some (if p < j then lo255 u / 65536 ^ p % 65536 else 0) := by simp [lowL, h]
theorem lowL_zero (u : Nat) : lowL u 0 = dgn 65536 16 0 := by
  rw [dg_zero]
  apply List.ext_getElem?
  intro p
  by_cases h : p < 16
  · rw [lowL_get _ _ _ h, List.getElem?_replicate, if_pos h, if_neg (Nat.not_lt_zero p)]
  · rw [List.getElem?_eq_none (by rw [length_lowL]; omega), List.getElem?_eq_none (by simp; omega)]
theorem lowL_set (u j x : Nat) (h : j < 16) (hx : x = lo255 u / 65536 ^ j % 65536) : (lowL u j).set j x = lowL u (j + 1) := by
  subst hx
  apply List.ext_getElem?
  intro p
  rw [List.getElem?_set, length_lowL]
  by_cases hp : p < 16
  · rw [lowL_get _ _ _ hp, lowL_get _ _ _ hp]
    by_cases e : j = p
    · subst e
      rw [if_pos rfl, if_pos hp, if_pos (by omega)]
    · rw [if_neg e]
      by_cases h2 : p < j
      · rw [if_pos h2, if_pos (by omega)]
      · rw [if_neg h2, if_neg (by omega)]
  · rw [if_neg (by omega), List.getElem?_eq_none (by rw [length_lowL]; omega), List.getElem?_eq_none (by rw [length_lowL]; omega)]
theorem lowL_more (u j : Nat) (h : 16 ≤ j) : lowL u (j + 1) = lowL u j := by
  unfold lowL
  apply List.map_congr_left
  intro p hp
  have := List.mem_range.1 hp
  rw [if_pos (by omega), if_pos (by omega)]
theorem lowL_end (u j : Nat) (h : 16 ≤ j) : lowL u j = dgn 65536 16 (lo255 u) := by
  unfold lowL dgn
  apply List.map_congr_left
  intro p hp
  have := List.mem_range.1 hp
  rw [if_pos (by omega)]
theorem high_get (u n j : Nat) (hn : u < 65536 ^ n) (h15 : 15 ≤ j) : u / 65536 ^ j % 65536 / 32768 + (if j + 1 < n then u / 65536 ^ (j + 1) % 65536 % 32768 * 2 else 0) = hi255 u / 65536 ^ (j - 15) % 65536 := by
  rw [hi_dig, show 15 + (j - 15) = j by omega]
  split
  · rfl
  · rw [dig_zero hn (by decide) (show n ≤ j + 1 by omega)]
theorem high_app (u j : Nat) (h15 : 15 ≤ j) : dgn 65536 (j + 1 - 15) (hi255 u) = dgn 65536 (j - 15) (hi255 u) ++ [hi255 u / 65536 ^ (j - 15) % 65536] := by
  rw [show j + 1 - 15 = j - 15 + 1 by omega, dg_succ]
/-- What the inner loop keeps: the row low at g, the row high, all that lay before. -/
structure RSt (w0 : World) (g u j k : Nat) (x : Value) (w : World) : Prop where
  low : TSt g 16 w0 (lowL u j) w
  high : w.ownsRow (g + 1) 3 1 x k (dvs (dgn 65536 k (hi255 u)))
theorem RSt.drewN {w0 : World} {g u j k : Nat} {x : Value} {w : World} (h : RSt w0 g u j k x w) (m : Nat) : RSt w0 g u j k x (w.drewN m) := ⟨h.low.drewN m, h.high⟩
theorem RSt.put {w0 : World} {g u j k : Nat} {x : Value} {w : World} (h : RSt w0 g u j k x w) (hj : j < 16) (d : Nat) (hd : d = lo255 u / 65536 ^ j % 65536) (v : Value) (hv : v = .int .i64 (d : Int)) : RSt w0 g u (j + 1) k x (w.setCell ⟨g, j, none⟩ v) := by
  refine ⟨?_, ?_⟩
  · rw [← lowL_set u j d hj hd]
    exact h.low.put j d v hv
  · refine h.high.kept (h.low.own.stored j v).2 ?_
    by_cases hb : x.ownBlock = some g
    · have := (h.high.lt g hb).1
      omega
    · exact .inr hb
theorem RSt.skip {w0 : World} {g u j k : Nat} {x : Value} {w : World} (h : RSt w0 g u j k x w) (hj : 16 ≤ j) : RSt w0 g u (j + 1) k x w := ⟨by rw [lowL_more u j hj]; exact h.low, h.high⟩
/-- Something appended to high, whose block is not low's. -/
theorem RSt.app {w0 : World} {g u j k k' : Nat} {x x' : Value} {w w' : World} (h : RSt w0 g u j k x w) (o : Obj) (hg : (w.alloc o).grownBy w' x.ownBlock) (ho : w'.ownsRow (g + 1) 3 1 x' k' (dvs (dgn 65536 k' (hi255 u)))) : RSt w0 g u j k' x' w' := by
  have hge := (own_cap h.low.own).2.2.1
  refine ⟨⟨(h.low.own.alloc o).kept hg ?_, ?_⟩, ho⟩
  · right
    intro e
    have := (h.high.lt g e.symm).1
    omega
  · exact (below_alloc h.low.bel o).grown hg (by rw [World.size_alloc]; exact Nat.le_succ_of_le h.low.bel.size) (fun m hm => by have := (h.high.lt m hm).1; omega)
end Go.Proofs.Ythlmphloalbhnaa

/-
  mailsackref03.Reduce: the walk.
-/
namespace Go.Proofs.Ythlmphloalbhnaa
open Go.RowKit MS

theorem DS.redM {w : World} {base n u : Nat} {v : Value} (h : DS w base v n u) : redM v w = 2 * u + if n > 16 then 1 else 0 := by rw [Go.Proofs.Ythlmphloalbhnaa.redM, h.num, h.len]
theorem DS.cut {w : World} {base g n cap u : Nat} (h : DS w base (.slice (some ⟨g, 0, none⟩) (n + 1) cap) (n + 1) u) (hn : 0 < n) (h0 : u / 65536 ^ n % 65536 = 0) : DS w base (.slice (some ⟨g, 0, none⟩) n cap) n u := by
  refine ⟨?_, lt_of_top h.2.1 h0, hn, by have := h.2.2.2; omega⟩
  have := own_take h.1 (m := n) (by omega)
  rwa [dvs_take, dgn_take _ _ _ _ (by omega)] at this
theorem low_start {w w1 : World} (u : Nat) (h1 : w1.ownsRow w.heap.size 3 1 (.slice (some ⟨w.heap.size, 0, none⟩) 16 16) 16 (madeCells #[.int .i64 0] 16).toList) (h2 : w.grownBy w1 none) : RSt w w.heap.size u 0 0 (.slice none 0 0) w1 := by
  refine ⟨⟨?_, (Below.refl w.heap.size w).grown h2 (Nat.le_refl _) (fun k hk => by cases hk)⟩, World.ownsRow_nil _ _ _ _⟩
  rw [lowL_zero, ← made_zeros]
  exact h1

set_option maxRecDepth 1000000 in
set_option maxHeartbeats 4000000 in
theorem rreduce_any (n u : Nat) (va : Value) (ba : Nat) (w : World) (ha : DS w ba va n u) (h16 : 16 ≤ n) :
    Calls Try.prog 42 #[va] w fun e w' => Below w.heap.size w w' ∧ ∃ r, e = .returned r ∧ DS w' 0 r 16 (u % Q') := by
  obtain ⟨i0, hi, hz0, hz1, hz2⟩ : ∃ i, Try.prog.info? 3 = some i ∧ i.zero = some (.int .i64 0) ∧ i.size = 1 ∧ i.bytes = 8 := ⟨_, rfl, rfl, rfl, rfl⟩
  have H0 := Lib.hid (show 16 ≤ n ∧ DS w 0 va n u ∧ u % Q' = u % Q' ∧ Below w.heap.size w w from ⟨h16, ha.base (Nat.zero_le _), rfl, Below.refl _ _⟩)
  clear ha h16
  go_enter Try.func42, Try.ntmps42
  go_wp2_with fail
  go_loopw [0] (fun v wr => ∃ n' u' : Nat, 16 ≤ n' ∧ DS wr 0 v n' u' ∧ u' % Q' = u % Q' ∧ Below w.heap.size w wr) (fun v wr => redM v wr)
  case atStart => exact ⟨n, u, H0.out.1, H0.out.2.1, rfl, Below.refl _ _⟩
  case round =>
    obtain ⟨n', u', h16, hd, hm, hb⟩ := hrel
    have HREDM := Lib.hid (show redM _ wr = 2 * u' + if n' > 16 then 1 else 0 by rw [redM, hd.num, hd.len])
    obtain ⟨ga, ca, rfl, -, hgw⟩ := hd.form
    have HD := Lib.hid hd
    have HA := Lib.hid hd.cells
    have HMO := Lib.hid hm
    have HB := Lib.hid hb
    have H16 := Lib.hid h16
    have HN100 := Lib.hid hd.2.2.2
    have HU := Lib.hid hd.2.1
    have c15 := hd.cell 15 (by omega)
    have ht := dig_lt 65536 (by decide) u' 15
    have HTOP := Lib.hid (show n' = 16 → ((32767 < u' / 65536 ^ 15 % 65536) ↔ hi255 u' ≠ 0) from fun e => hi_top (by rw [← e]; exact hd.2.1))
    generalize u' / 65536 ^ 15 % 65536 = t at *
    have n0 : (16 : Int) ≤ (n' : Int) := by omega
    have n1 : (n' : Int) ≤ 100 := by have := HN100.out; omega
    have hgaw := hgw
    clear hd hm hb hgw H0
    by_cases hgo : n' > 16 ∨ 32767 < t
    · have HGO := Lib.hid (show hi255 u' = 0 → n' > 16 from fun h => by
        rcases hgo with h1 | h1
        · exact h1
        · refine Nat.lt_of_le_of_ne H16.out fun e => ?_
          exact ((HTOP.out e.symm).1 h1) h)
      by_cases hn : n' > 16
      case' pos =>
        have q1 : (n' : Int) > 16 := by omega
        have q2 : True := trivial
        have q3 : True := trivial
      case' neg =>
        have q1 : ¬ (n' : Int) > 16 := by omega
        have q2 : ((n' : Int) == 16) = true := by simp; omega
        have q3 : (t : Int) > 32767 := by omega
      all_goals
        clear hgo hn HTOP
        go_wp2_with (at_make; refine wpList_make_full wr rfl (.const (.int .i64 16)) (.const (.int .i64 16)) 26 rfl wr.heap.size 3 i0 (.int .i64 0) 1 Try.underlying26 hi hz0 hz1 .i64 .i64 16 16 16 rfl rfl rfl rfl (by rw [hz2]; decide) (by decide) (Nat.le_refl _) ?_)
        intro w1 h1 h2
        have R0 := Lib.hid (low_start u' h1 h2)
        have HGA := Lib.hid hgaw
        clear h1 h2
        generalize hgl : wr.heap.size = gl at R0 ⊢
        have HGL := Lib.hid hgl
        clear hgl
        go_wp2_with fail
        obtain ⟨wo, rfl⟩ : ∃ wo : World, wo = wr := ⟨_, rfl⟩
        go_loopw [4, 5] (fun x i wr => ∃ j : Nat, j ≤ n' ∧ i = .int .i64 j ∧ RSt wo gl u' j (j - 15) x wr) (fun _ i _ => 300 - (intOf i).toNat)
        case atStart => exact ⟨0, by omega, rfl, R0.out⟩
        case round =>
          obtain ⟨j, hj, rfl, hr⟩ := hrel
          have R1 := Lib.hid hr
          have HJ := Lib.hid hj
          clear hr hj R0
          by_cases hlt : j < n'
          · have j1 : (j : Int) < n' := by omega
            have j0 : (0 : Int) ≤ j := by omega
            have HLT := Lib.hid hlt
            have ca0 := HA.out wr R1.out.low.bel j hlt
            have hx := dig_lt 65536 (by decide) u' j
            by_cases h15 : j < 15
            · have k1 : (j : Int) < 15 := by omega
              have k2 : ((j : Int) == 15) = false := by simp; omega
              have k3 : ¬ (j : Int) ≥ 15 := by omega
              have hput := R1.out.put (by omega) _ (lo_dig u' j h15).symm _ rfl
              rw [show j - 15 = j + 1 - 15 by omega] at hput
              have fl := R1.out.low.free j
              have cl := R1.out.low.cell j 0 (by omega) ((lowL_get u' j j (by omega)).trans (by rw [if_neg (Nat.lt_irrefl j)]))
              have HPUT := Lib.hid hput
              clear hput R1 hlt h15
              generalize u' / 65536 ^ j % 65536 = x at *
              go_wp2_with fail
              go_roundw
              case rel => exact ⟨j + 1, HLT.out, by go_num, HPUT.out⟩
              case measure => simp [intOf]; have := HLT.out; have := HN100.out; omega
            · have k1 : ¬ (j : Int) < 15 := by omega
              have k3 : (j : Int) ≥ 15 := by omega
              have H15 := Lib.hid (show 15 ≤ j by omega)
              have HG := Lib.hid (high_get u' n' j HU.out (by omega))
              have HAPP := Lib.hid (high_app u' j (by omega))
              have HYL := Lib.hid (dig_lt 65536 (by decide) u' (j + 1))
              by_cases h16 : j = 15
              case' pos =>
                have k2 : ((j : Int) == 15) = true := by simp; omega
                have j16 : (j : Int) < 16 := by omega
                have hput := R1.out.put (by omega) (u' / 65536 ^ j % 65536 % 32768) (by rw [h16]; exact (lo_dig15 u').symm) (.int .i64 (((u' / 65536 ^ j % 65536 : Nat) : Int) % 32768)) rfl
                have fl := R1.out.low.free j
                have cl := R1.out.low.cell j 0 (by omega) ((lowL_get u' j j (by omega)).trans (by rw [if_neg (Nat.lt_irrefl j)]))
                have HR := Lib.hid hput
                clear hput R1 hlt h15 h16
                generalize hxe : u' / 65536 ^ j % 65536 = x at *
                have HXE := Lib.hid hxe
                clear hxe
                go_upto_region 11 with fail
                generalize wr.setCell ⟨gl, j, none⟩ (.int .i64 ((x : Int) % 32768)) = wq at HR ⊢
                clear fl cl ca0 j16
              case' neg =>
                have k2 : ((j : Int) == 15) = false := by simp; omega
                have HR := Lib.hid (R1.out.skip (by omega))
                clear R1 hlt h15 h16
                generalize hxe : u' / 65536 ^ j % 65536 = x at *
                have HXE := Lib.hid hxe
                clear hxe
                clear ca0
                go_upto_region 11 with fail
                obtain ⟨wq, rfl⟩ : ∃ wq : World, wq = wr := ⟨_, rfl⟩
              all_goals
                have HHG := Lib.hid (show gl + 1 ≤ wq.heap.size from (own_cap HR.out.low.own).2.2.2)
                have HCA := Lib.hid (HA.out wq HR.out.low.bel)
                have HMJ := Lib.hid (show j - 15 + 1 ≤ maxLen by have := HLT.out; have := HN100.out; unfold maxLen; omega)
                have HBJ := Lib.hid (show (j - 15 + 1) * 8 ≤ 140737488355328 by have := HLT.out; have := HN100.out; omega)
                have ca0 := HCA.out j HLT.out
                rw [HXE.out] at ca0
                have hg := HG.out
                have hyl := HYL.out
                by_cases hj2 : j + 1 < n'
                case' pos =>
                  have m1 : (j : Int) + 1 < n' := by omega
                  have m0 : (0 : Int) ≤ (j : Int) + 1 := by omega
                  have ca1 := HCA.out (j + 1) hj2
                  rw [if_pos hj2] at hg
                  generalize u' / 65536 ^ (j + 1) % 65536 = y at *
                  have y1 : (y : Int) < 65536 := by omega
                  have y0 : (0 : Int) ≤ (y : Int) := by omega
                  obtain ⟨S, hS⟩ : ∃ S : Nat, S = x / 32768 + y % 32768 * 2 := ⟨_, rfl⟩
                  have qS : (x : Int) / 32768 + (y : Int) % 32768 * 2 = (S : Int) := by omega
                case' neg =>
                  have m1 : ¬ (j : Int) + 1 < n' := by omega
                  have m0 : (0 : Int) ≤ (j : Int) + 1 := by omega
                  have ca1 : True := trivial
                  rw [if_neg hj2] at hg
                  have y1 : True := trivial
                  have y0 : True := trivial
                  obtain ⟨S, hS⟩ : ∃ S : Nat, S = x / 32768 + 0 := ⟨_, rfl⟩
                  have qS : (x : Int) / 32768 = (S : Int) := by omega
                all_goals
                  rw [← hS] at hg
                  have S1 : (S : Int) < 65536 := by omega
                  have S0 : (0 : Int) ≤ (S : Int) := by omega
                  have qm : (S : Int) % 65536 = (S : Int) := by omega
                  have x1 : (x : Int) < 65536 := by omega
                  have x0 : (0 : Int) ≤ (x : Int) := by omega
                  have HAP2 := HAPP.out
                  rw [← hg] at HAP2
                  have HNEXT := Lib.hid (show ∀ (x1 : Value) (w1 : World), w1.ownsRow (gl + 1) 3 1 x1 (j - 15 + 1) (dvs (dgn 65536 (j - 15) (hi255 u')) ++ [.int .i64 (S : Int)]) → w1.ownsRow (gl + 1) 3 1 x1 (j + 1 - 15) (dvs (dgn 65536 (j + 1 - 15) (hi255 u'))) from by
                    intro x1 w1 h
                    rw [HAP2, dvs_app, show j + 1 - 15 = j - 15 + 1 by have := H15.out; omega]
                    exact h)
                  have HAL := Lib.hid (HR.out.high.alloc (.cells #[.int .i64 (S : Int)] 3 (0, 0)))
                  clear hS hg HAP2 HAPP HG HYL hyl hx HCA hj2 k2
                  go_upto_region 15 with fail
                  clear ca0 ca1 x1 x0 y1 y0 qS m1 m0 k1 k3
                  go_wp2_with (at_builtin; refine wpList_append_own _ rfl (.tmp 69) (.tmp 72) 26 rfl _ 3 i0 (.int .i64 0) 1 8 Try.underlying26 hi hz0 hz1 hz2 rfl (by decide) _ _ _ rfl HAL.out ⟨wq.heap.size, 0, none⟩ 1 1 [.int .i64 (S : Int)] rfl rfl (one_cell wq _ _) (one_one _ rfl) HMJ.out HBJ.out (le_alloc HHG.out _) ?_)
                  intro v1 w9 h1 h2 h3
                  have HR9 := Lib.hid (HR.out.app _ h2 (HNEXT.out _ _ h1))
                  clear h1 h2 h3
                  go_wp2_with fail
                  go_roundw
                  case rel => exact ⟨j + 1, by have := HLT.out; omega, by go_num, HR9.out⟩
                  case measure => simp [intOf]; have := HLT.out; have := HN100.out; omega
          · have j1 : ¬ (j : Int) < n' := by omega
            have hjn : j = n' := by have := HJ.out; omega
            have R2 := R1.out
            rw [hjn] at R2
            have HLOW := Lib.hid (show TSt gl 16 wo (dgn 65536 16 (lo255 u')) wr from by rw [← lowL_end u' n' H16.out]; exact R2.low)
            have HHI := Lib.hid (hi_lt HU.out (by have := H16.out; omega))
            obtain ⟨gh, ch, rfl, hgh, -⟩ := R2.high.form (by have := H16.out; omega)
            have HOH := Lib.hid R2.high
            obtain ⟨k0, hk0⟩ : ∃ k0, n' - 15 = k0 := ⟨_, rfl⟩
            rw [hk0] at HHI HOH ⊢
            have HK0 := Lib.hid (show k0 ≤ 85 by have := HN100.out; omega)
            have hch := Lib.hid (own_cap HOH.out)
            clear R2 R1 hgh hlt hjn hk0
            go_wp2_with fail
            obtain ⟨w5, rfl⟩ : ∃ w5 : World, w5 = wr := ⟨_, rfl⟩
            go_loopw [4] (fun x wr => ∃ k : Nat, k ≤ 85 ∧ k ≤ ch ∧ hi255 u' < 65536 ^ k ∧ x = .slice (some ⟨gh, 0, none⟩) k ch ∧ wr.ownsRow (gl + 1) 3 1 (.slice (some ⟨gh, 0, none⟩) k ch) k (dvs (dgn 65536 k (hi255 u'))) ∧ TSt gl 16 wo (dgn 65536 16 (lo255 u')) wr) (fun x _ => lenOf x)
            case atStart => exact ⟨k0, HK0.out, hch.out.1, HHI.out, rfl, HOH.out, HLOW.out⟩
            case round =>
              obtain ⟨k, hk, hkc, hlt, rfl, ho, hl⟩ := hrel
              have HO := Lib.hid ho
              have HL := Lib.hid hl
              have HKB := Lib.hid hk
              have HKC := Lib.hid hkc
              have HKH := Lib.hid hlt
              clear ho hl HLOW HOH HHI
              cases k with
              | zero =>
                have hz : hi255 u' = 0 := by have := HKH.out; rw [Nat.pow_zero] at this; omega
                have hzz := Lib.hid hz
                have K16 := Lib.hid (Nat.le_refl 16)
                have D2 := Lib.hid (show DS wr 0 (.slice (some ⟨gl, 0, none⟩) 16 16) 16 (lo255 u') from ⟨(show DS wr wo.heap.size _ 16 _ from ⟨HL.out.own, lo_lt u', by decide, by decide⟩).base (Nat.zero_le _) |>.1, lo_lt u', by decide, by decide⟩)
                have MQ := Lib.hid (show lo255 u' % Q' = u % Q' by rw [fold_same hz]; exact HMO.out)
                have BW := Lib.hid (show Below w.heap.size w wr from HB.out.trans (HL.out.bel.mono HB.out.size))
                have DEC := Lib.hid (show ∀ k3, k3 ≤ 16 → 2 * lo255 u' + (if k3 > 16 then 1 else 0) < 2 * u' + (if n' > 16 then 1 else 0) from fun k3 h3 => by
                  rw [fold_same hz, if_neg (by omega), if_pos (HGO.out hz)]
                  omega)
                clear hz hk hkc hlt
                go_wp2_with fail
                obtain ⟨wp, rfl⟩ : ∃ wp : World, wp = wr := ⟨_, rfl⟩
                go_loopw [0] (fun v wr => ∃ k : Nat, 16 ≤ k ∧ k ≤ 16 ∧ v = .slice (some ⟨gl, 0, none⟩) k 16 ∧ DS wr 0 (.slice (some ⟨gl, 0, none⟩) k 16) k (lo255 u') ∧ Below w.heap.size w wr) (fun v _ => lenOf v)
                case atStart => exact ⟨16, K16.out, Nat.le_refl _, rfl, D2.out, BW.out⟩
                case round =>
                  obtain ⟨k, hk16, hkK, rfl, hd, hbl⟩ := hrel
                  have D3 := Lib.hid hd
                  have B3 := Lib.hid hbl
                  have KK := Lib.hid hkK
                  have KG := Lib.hid hk16
                  have kb : (k : Int) ≤ 100 := by have := hd.2.2.2; omega
                  clear hd hbl hkK D2 BW
                  by_cases hk : k > 16
                  · obtain ⟨k, rfl⟩ : ∃ k', k = k' + 1 := ⟨k - 1, by omega⟩
                    have m1 : ((k + 1 : Nat) : Int) > 16 := by omega
                    have cd := D3.out.cell k (by omega)
                    have HCUT := Lib.hid (D3.out.cut (by omega))
                    have KC := Lib.hid (own_cap D3.out.1)
                    have k0 : (0 : Int) ≤ (k : Int) := by omega
                    have m2 : (k : Int) < ((k + 1 : Nat) : Int) := by omega
                    have m3 : ((k + 1 : Nat) : Int) - 1 = (k : Int) := by omega
                    have m4 : (k : Int) ≤ ((16 : Nat) : Int) := by have := KC.out.1; omega
                    generalize (lo255 u') / 65536 ^ k % 65536 = d at *
                    by_cases hdz : d = 0
                    · have z1 : ((d : Int) == 0) = true := by simp; omega
                      have HC2 := Lib.hid (HCUT.out hdz)
                      have KL := Lib.hid hk
                      clear hdz hk HCUT hk16
                      go_wp2_with fail
                      go_roundw
                      case rel => exact ⟨k, by have := KL.out; omega, by have := KK.out; omega, rfl, HC2.out, B3.out⟩
                      case measure => show k < k + 1; omega
                    · have z1 : ((d : Int) == 0) = false := by simp; omega
                      clear hdz hk HCUT hk16
                      go_wp2_with fail
                      go_roundw
                      case rel => exact ⟨_, _, KG.out, D3.out, MQ.out, B3.out⟩
                      case measure => rw [HREDM.out, D3.out.redM]; exact DEC.out _ KK.out
                  · have m1 : ¬ (k : Int) > 16 := by omega
                    clear hk hk16
                    go_wp2_with fail
                    go_roundw
                    case rel => exact ⟨_, _, KG.out, D3.out, MQ.out, B3.out⟩
                    case measure => rw [HREDM.out, D3.out.redM]; exact DEC.out _ KK.out
              | succ k =>
                have m1 : ((k + 1 : Nat) : Int) > 0 := by omega
                have cd : wr.cell? ⟨gh, k, none⟩ = some (.int .i64 ((hi255 u' / 65536 ^ k % 65536 : Nat) : Int)) := by
                  rw [HO.out.cellAt k (by omega), dvs, List.getElem?_map, dg_get _ _ _ _ (by omega)]
                  rfl
                have HCUT := Lib.hid (show hi255 u' / 65536 ^ k % 65536 = 0 → hi255 u' < 65536 ^ k from lt_of_top HKH.out)
                have HGE := Lib.hid (show hi255 u' / 65536 ^ k % 65536 ≠ 0 → hi255 u' ≠ 0 from fun h e => h (by rw [e, Nat.zero_div, Nat.zero_mod]))
                have HT := own_take HO.out (m := k) (by omega)
                rw [dvs_take, dgn_take _ _ _ _ (by omega)] at HT
                have HOT := Lib.hid HT
                have k0 : (0 : Int) ≤ (k : Int) := by omega
                have kb : (k : Int) ≤ 85 := by omega
                have m2 : (k : Int) < ((k + 1 : Nat) : Int) := by omega
                have m3 : ((k + 1 : Nat) : Int) - 1 = (k : Int) := by omega
                have m4 : (k : Int) ≤ (ch : Int) := by omega
                clear HT
                generalize hi255 u' / 65536 ^ k % 65536 = d at *
                by_cases hdz : d = 0
                · have z1 : ((d : Int) == 0) = true := by simp; omega
                  have HC2 := Lib.hid (HCUT.out hdz)
                  clear hdz HCUT hk hkc hlt
                  go_wp2_with fail
                  go_roundw
                  case rel => exact ⟨k, by have := HKB.out; omega, by have := HKC.out; omega, HC2.out, rfl, HOT.out, HL.out⟩
                  case measure => show k < k + 1; omega
                · have z1 : ((d : Int) == 0) = false := by simp; omega
                  have HNZ := Lib.hid (HGE.out hdz)
                  have DH := Lib.hid (show DS (wr.alloc (.cells #[.int .i64 19] 3 (0, 0))) (gl + 1) (.slice (some ⟨gh, 0, none⟩) (k + 1) ch) (k + 1) (hi255 u') from (show DS wr _ _ _ _ from ⟨HO.out, HKH.out, by omega, by have := HKB.out; omega⟩).on ((Below.refl _ _).alloc (Nat.le_refl _) _))
                  have D19 := Lib.hid (show DS (wr.alloc (.cells #[.int .i64 19] 3 (0, 0))) wr.heap.size (.slice (some ⟨wr.heap.size, 0, none⟩) 1 1) 1 19 from ⟨World.ownsRow_lit (base := wr.heap.size) (e := 3) (size := 1) wr #[.int .i64 19] 1 (Nat.le_refl _) (by decide) rfl, by decide, by decide, by decide⟩)
                  have DL0 := Lib.hid (show DS (wr.alloc (.cells #[.int .i64 19] 3 (0, 0))) wo.heap.size (.slice (some ⟨gl, 0, none⟩) 16 16) 16 (lo255 u') from (show DS wr _ _ _ _ from ⟨HL.out.own, lo_lt u', by decide, by decide⟩).on ((Below.refl _ _).alloc (Nat.le_refl _) _))
                  have BA := Lib.hid (show Below w.heap.size w (wr.alloc (.cells #[.int .i64 19] 3 (0, 0))) from below_alloc (HB.out.trans (HL.out.bel.mono HB.out.size)) _)
                  clear hdz HCUT HGE HOT hk hkc hlt
                  go_wp2_with fail
                  refine (rtimes_any (k + 1) 1 (hi255 u') 19 _ _ _ _ _ DH.out D19.out).mono ?_
                  rintro e w7 ⟨hb7, r7, rfl, ho7⟩
                  have DT := Lib.hid (show DS w7 _ r7 (k + 1 + 1) (hi255 u' * 19) from ⟨ho7, prod_lt_pow HKH.out (by decide) (by decide), by omega, by have := HKB.out; omega⟩)
                  have DL := Lib.hid (DL0.out.on hb7)
                  have B7 := Lib.hid (BA.out.trans (hb7.mono BA.out.size))
                  clear hb7 ho7 D19 DH DL0 BA
                  go_wp2_with fail
                  refine (radd_any 16 (k + 1 + 1) (lo255 u') (hi255 u' * 19) _ _ _ _ _ DL.out DT.out).mono ?_
                  rintro e w8 ⟨hb8, r8, k2, rfl, p1, p2, p3, p4, ho8⟩
                  have BW := Lib.hid (B7.out.trans (hb8.mono B7.out.size))
                  have hd8 : DS w8 0 r8 k2 (lo255 u' + hi255 u' * 19) := (show DS w8 _ r8 k2 _ from ⟨ho8, p4, by omega, by have := HKB.out; omega⟩).base (Nat.zero_le _)
                  obtain ⟨g2, c2, rfl, -, -⟩ := hd8.form
                  have D2 := Lib.hid hd8
                  have K16 := Lib.hid p1
                  have MQ := Lib.hid (show (lo255 u' + hi255 u' * 19) % Q' = u % Q' by rw [Nat.mul_comm, fold_mod]; exact HMO.out)
                  have DEC := Lib.hid (show ∀ k3, k3 ≤ k2 → 2 * (lo255 u' + hi255 u' * 19) + (if k3 > 16 then 1 else 0) < 2 * u' + (if n' > 16 then 1 else 0) from fun k3 h3 => by
                    have := fold_lt HNZ.out
                    split <;> omega)
                  clear hb8 ho8 p1 p2 p3 p4 hd8 DT DL B7 cd m1 m2 m3 m4 k0 kb z1 HKH HKB HKC HO HL
                  go_wp2_with fail
                  obtain ⟨wp, rfl⟩ : ∃ wp : World, wp = w8 := ⟨_, rfl⟩
                  go_loopw [0] (fun v wr => ∃ k : Nat, 16 ≤ k ∧ k ≤ k2 ∧ v = .slice (some ⟨g2, 0, none⟩) k c2 ∧ DS wr 0 (.slice (some ⟨g2, 0, none⟩) k c2) k (lo255 u' + hi255 u' * 19) ∧ Below w.heap.size w wr) (fun v _ => lenOf v)
                  case atStart => exact ⟨k2, K16.out, Nat.le_refl _, rfl, D2.out, BW.out⟩
                  case round =>
                    obtain ⟨k, hk16, hkK, rfl, hd, hbl⟩ := hrel
                    have D3 := Lib.hid hd
                    have B3 := Lib.hid hbl
                    have KK := Lib.hid hkK
                    have KG := Lib.hid hk16
                    have kb : (k : Int) ≤ 100 := by have := hd.2.2.2; omega
                    clear hd hbl hkK D2 BW
                    by_cases hk : k > 16
                    · obtain ⟨k, rfl⟩ : ∃ k', k = k' + 1 := ⟨k - 1, by omega⟩
                      have m1 : ((k + 1 : Nat) : Int) > 16 := by omega
                      have cd := D3.out.cell k (by omega)
                      have HCUT := Lib.hid (D3.out.cut (by omega))
                      have KC := Lib.hid (own_cap D3.out.1)
                      have k0 : (0 : Int) ≤ (k : Int) := by omega
                      have m2 : (k : Int) < ((k + 1 : Nat) : Int) := by omega
                      have m3 : ((k + 1 : Nat) : Int) - 1 = (k : Int) := by omega
                      have m4 : (k : Int) ≤ ((c2 : Nat) : Int) := by have := KC.out.1; omega
                      generalize (lo255 u' + hi255 u' * 19) / 65536 ^ k % 65536 = d at *
                      by_cases hdz : d = 0
                      · have z1 : ((d : Int) == 0) = true := by simp; omega
                        have HC2 := Lib.hid (HCUT.out hdz)
                        have KL := Lib.hid hk
                        clear hdz hk HCUT hk16
                        go_wp2_with fail
                        go_roundw
                        case rel => exact ⟨k, by have := KL.out; omega, by have := KK.out; omega, rfl, HC2.out, B3.out⟩
                        case measure => show k < k + 1; omega
                      · have z1 : ((d : Int) == 0) = false := by simp; omega
                        clear hdz hk HCUT hk16
                        go_wp2_with fail
                        go_roundw
                        case rel => exact ⟨_, _, KG.out, D3.out, MQ.out, B3.out⟩
                        case measure => rw [HREDM.out, D3.out.redM]; exact DEC.out _ KK.out
                    · have m1 : ¬ (k : Int) > 16 := by omega
                      clear hk hk16
                      go_wp2_with fail
                      go_roundw
                      case rel => exact ⟨_, _, KG.out, D3.out, MQ.out, B3.out⟩
                      case measure => rw [HREDM.out, D3.out.redM]; exact DEC.out _ KK.out
    · have hn16 : n' = 16 := by have := H16.out; omega
      have HZ := Lib.hid (show hi255 u' = 0 from Decidable.byContradiction fun h => hgo (.inr ((HTOP.out hn16).2 h)))
      have HT := Lib.hid (red_end HZ.out)
      have q1 : ¬ (n' : Int) > 16 := by omega
      have q2 : ((n' : Int) == 16) = true := by simp; omega
      have q3 : ¬ (t : Int) > 32767 := by omega
      have q4 : ¬ (n' : Int) < 16 := by omega
      have HN := Lib.hid hn16
      clear hgo HTOP hn16
      go_wp2_with fail
      obtain ⟨wp, rfl⟩ : ∃ wp : World, wp = wr := ⟨_, rfl⟩
      go_loopw [0] (fun v wr' => v = .slice (some ⟨ga, 0, none⟩) n' ca ∧ wr' = wp) (fun _ _ => 0)
      case atStart => exact ⟨rfl, rfl⟩
      case round =>
        obtain ⟨rfl, rfl⟩ := hrel
        go_wp2_with fail
        refine (rprime_any _).mono ?_
        rintro e w7 ⟨hb7, r7, rfl, ho7⟩
        have DP := Lib.hid (show DS w7 _ r7 16 Q' from ⟨ho7, by decide, by decide, by decide⟩)
        have DA := Lib.hid (show DS w7 0 (.slice (some ⟨ga, 0, none⟩) 16 ca) 16 u' from by have := HD.out.on hb7; rw [HN.out] at this; exact this.base (Nat.zero_le _))
        have B7 := Lib.hid (HB.out.trans (hb7.mono HB.out.size))
        rw [HN.out]
        clear hb7 ho7
        go_wp2_with fail
        refine (rbelow_any u' Q' _ _ _ _ _ DA.out DP.out).mono ?_
        rintro e w8 ⟨rfl, hb8⟩
        have DP8 := Lib.hid (DP.out.on hb8)
        have DA8 := Lib.hid (DA.out.on hb8)
        have B8 := Lib.hid (B7.out.trans (hb8.mono B7.out.size))
        clear hb8 DP DA B7
        by_cases hlt : u' < Q'
        · rw [decide_eq_true hlt]
          have HT2 := HT.out
          rw [if_pos hlt] at HT2
          have HT3 := Lib.hid HT2
          clear hlt HT HT2
          go_wp2_with fail
          go_ret
          exact ⟨B8.out, _, rfl, by rw [← HMO.out, HT3.out]; exact DA8.out⟩
        · rw [decide_eq_false hlt]
          have HT2 := HT.out
          rw [if_neg hlt] at HT2
          have HT3 := Lib.hid HT2
          have HL := Lib.hid (Nat.le_of_not_lt hlt)
          clear hlt HT HT2
          go_wp2_with fail
          refine (rminus_any u' Q' _ _ _ _ _ DA8.out DP8.out HL.out).mono ?_
          rintro e w9 ⟨hb9, r9, rfl, ho9⟩
          have E9 := Lib.hid (show Below w.heap.size w w9 ∧ DS w9 0 r9 16 (u % Q') from by
            refine ⟨B8.out.trans (hb9.mono B8.out.size), ?_⟩
            rw [← HMO.out, HT3.out]
            exact (show DS w9 _ r9 16 (u' - Q') from ⟨ho9, Nat.lt_of_le_of_lt (Nat.sub_le _ _) (by have := DA8.out.2.1; exact this), by decide, by decide⟩).base (Nat.zero_le _))
          clear hb9 ho9
          go_wp2_with fail
          go_ret
          exact ⟨E9.out.1, _, rfl, E9.out.2⟩
end Go.Proofs.Ythlmphloalbhnaa

/-
  mailsackref03.Add, Sub, Mul, Small: the walks.
-/
namespace Go.Proofs.Ythlmphloalbhnaa
open Go.RowKit MS

theorem Q_pow : Q' < 65536 ^ 16 := by decide
theorem mod_pow (x : Nat) : x % Q' < 65536 ^ 16 := Nat.lt_trans (Nat.mod_lt _ (by decide)) Q_pow

set_option maxRecDepth 1000000 in
set_option maxHeartbeats 1000000 in
theorem rfmul_any (u v : Nat) (va vb : Value) (ba bb : Nat) (w : World) (ha : DS w ba va 16 u) (hb : DS w bb vb 16 v) :
    Calls Try.prog 19 #[va, vb] w fun e w' => Below w.heap.size w w' ∧ ∃ r, e = .returned r ∧ DS w' 0 r 16 (u * v % Q') := by
  have H1 := Lib.hid (rtimes_any 16 16 u v _ _ _ _ w ha hb)
  have HP := Lib.hid (show u * v < 65536 ^ (16 + 16) by rw [Nat.pow_add]; exact Nat.mul_lt_mul'' ha.2.1 hb.2.1)
  clear ha hb
  go_enter Try.func19, Try.ntmps19
  go_wp2_with fail
  refine H1.out.mono ?_
  rintro e w1 ⟨hb1, r1, rfl, ho1⟩
  have D1 := Lib.hid (show DS w1 _ r1 (16 + 16) (u * v) from ⟨ho1, HP.out, by decide, by decide⟩)
  have B1 := Lib.hid hb1
  clear hb1 ho1
  go_wp2_with fail
  refine (rreduce_any _ _ _ _ _ D1.out (by decide)).mono ?_
  rintro e w2 ⟨hb2, r2, rfl, hd2⟩
  have B2 := Lib.hid (B1.out.trans (hb2.mono B1.out.size))
  have D2 := Lib.hid hd2
  clear hb2 hd2
  go_wp2_with fail
  go_ret
  exact ⟨B2.out, _, rfl, D2.out⟩

set_option maxRecDepth 1000000 in
set_option maxHeartbeats 1000000 in
theorem rfadd_any (n m u v : Nat) (va vb : Value) (ba bb : Nat) (w : World) (ha : DS w ba va n u) (hb : DS w bb vb m v) (hn : 16 ≤ n) (hn1 : n ≤ 90) (hm1 : m ≤ 90) :
    Calls Try.prog 24 #[va, vb] w fun e w' => Below w.heap.size w w' ∧ ∃ r, e = .returned r ∧ DS w' 0 r 16 ((u + v) % Q') := by
  have H1 := Lib.hid (radd_any n m u v _ _ _ _ w ha hb)
  have HN := Lib.hid (show 16 ≤ n ∧ n ≤ 90 ∧ m ≤ 90 from ⟨hn, hn1, hm1⟩)
  clear ha hb hn hn1 hm1
  go_enter Try.func24, Try.ntmps24
  go_wp2_with fail
  refine H1.out.mono ?_
  rintro e w1 ⟨hb1, r1, k1, rfl, p1, p2, p3, p4, ho1⟩
  have D1 := Lib.hid (show DS w1 _ r1 k1 (u + v) from ⟨ho1, p4, by have := HN.out; omega, by have := HN.out; omega⟩)
  have K1 := Lib.hid (show 16 ≤ k1 by have := HN.out; omega)
  have B1 := Lib.hid hb1
  clear hb1 ho1 p1 p2 p3 p4
  go_wp2_with fail
  refine (rreduce_any _ _ _ _ _ D1.out K1.out).mono ?_
  rintro e w2 ⟨hb2, r2, rfl, hd2⟩
  have B2 := Lib.hid (B1.out.trans (hb2.mono B1.out.size))
  have D2 := Lib.hid hd2
  clear hb2 hd2
  go_wp2_with fail
  go_ret
  exact ⟨B2.out, _, rfl, D2.out⟩

set_option maxRecDepth 1000000 in
set_option maxHeartbeats 1000000 in
theorem rfsub_any (u v : Nat) (va vb : Value) (ba bb : Nat) (w : World) (ha : DS w ba va 16 u) (hb : DS w bb vb 16 v) (hv : v ≤ Q') :
    Calls Try.prog 26 #[va, vb] w fun e w' => Below w.heap.size w w' ∧ ∃ r, e = .returned r ∧ DS w' 0 r 16 ((u + (Q' - v)) % Q') := by
  have HA := Lib.hid ha
  have HB := Lib.hid hb
  have HV := Lib.hid hv
  clear ha hb hv
  go_enter Try.func26, Try.ntmps26
  go_wp2_with fail
  refine (rprime_any w).mono ?_
  rintro e w1 ⟨hb1, r1, rfl, ho1⟩
  have DP := Lib.hid (show DS w1 _ r1 16 Q' from ⟨ho1, by decide, by decide, by decide⟩)
  have B1 := Lib.hid hb1
  clear hb1 ho1
  go_wp2_with fail
  refine (rminus_any Q' v _ _ _ _ _ DP.out (HB.out.on B1.out) HV.out).mono ?_
  rintro e w2 ⟨hb2, r2, rfl, ho2⟩
  have DM := Lib.hid (show DS w2 _ r2 16 (Q' - v) from ⟨ho2, Nat.lt_of_le_of_lt (Nat.sub_le _ _) Q_pow, by decide, by decide⟩)
  have B2 := Lib.hid (B1.out.trans (hb2.mono B1.out.size))
  clear hb2 ho2 DP B1
  go_wp2_with fail
  refine (radd_any 16 16 u (Q' - v) _ _ _ _ _ (HA.out.on B2.out) DM.out).mono ?_
  rintro e w3 ⟨hb3, r3, k3, rfl, p1, p2, p3, p4, ho3⟩
  have D3 := Lib.hid (show DS w3 _ r3 k3 (u + (Q' - v)) from ⟨ho3, p4, by omega, by omega⟩)
  have K3 := Lib.hid p1
  have B3 := Lib.hid (B2.out.trans (hb3.mono B2.out.size))
  clear hb3 ho3 p1 p2 p3 p4 DM B2
  go_wp2_with fail
  refine (rreduce_any _ _ _ _ _ D3.out K3.out).mono ?_
  rintro e w4 ⟨hb4, r4, rfl, hd4⟩
  have B4 := Lib.hid (B3.out.trans (hb4.mono B3.out.size))
  have D4 := Lib.hid hd4
  clear hb4 hd4
  go_wp2_with fail
  go_ret
  exact ⟨B4.out, _, rfl, D4.out⟩

theorem small_digits (n : Nat) (h : n < 65536 * 65536) : ((dgn 65536 16 0).set 0 (n % 65536)).set 1 (n / 65536) = dgn 65536 16 n := by
  apply List.ext_getElem?
  intro i
  by_cases hi : i < 16
  · rw [dg_get _ _ _ _ hi, List.getElem?_set, List.length_set, length_dgn, List.getElem?_set, length_dgn, dg_get _ _ _ _ hi]
    match i with
    | 0 => simp
    | 1 =>
      simp
      omega
    | i + 2 =>
      rw [if_neg (by omega), if_neg (by omega)]
      have : n / 65536 ^ (i + 2) = 0 := Nat.div_eq_of_lt (Nat.lt_of_lt_of_le h (by rw [Nat.pow_add, show 65536 * 65536 = 65536 ^ 2 by decide]; exact Nat.le_mul_of_pos_left _ (Nat.pow_pos (by decide))))
      rw [this]
      simp
  · rw [List.getElem?_eq_none (by simp [length_dgn]; omega), List.getElem?_eq_none (by rw [length_dgn]; omega)]

set_option maxRecDepth 1000000 in
set_option maxHeartbeats 1000000 in
theorem rfsmall_any (n : Nat) (hn : n < 4294967296) (w : World) :
    Calls Try.prog 21 #[.int .i64 (n : Int)] w fun e w' => Below w.heap.size w w' ∧ ∃ r, e = .returned r ∧ DS w' 0 r 16 n := by
  obtain ⟨i0, hi, hz0, hz1, hz2⟩ : ∃ i, Try.prog.info? 3 = some i ∧ i.zero = some (.int .i64 0) ∧ i.size = 1 ∧ i.bytes = 8 := ⟨_, rfl, rfl, rfl, rfl⟩
  have n0 : (0 : Int) ≤ (n : Int) := by omega
  have n1 : (n : Int) < 4294967296 := by omega
  have HD := Lib.hid (small_digits n (by omega))
  have HL := Lib.hid (show n < 65536 ^ 16 by omega)
  clear hn
  go_enter Try.func21, Try.ntmps21
  go_wp2_with (at_make; refine wpList_make_full w rfl (.const (.int .i64 16)) (.const (.int .i64 16)) 26 rfl w.heap.size 3 i0 (.int .i64 0) 1 Try.underlying26 hi hz0 hz1 .i64 .i64 16 16 16 rfl rfl rfl rfl (by rw [hz2]; decide) (by decide) (Nat.le_refl _) ?_)
  intro w1 h1 h2
  have R0 := Lib.hid (show TSt w.heap.size 16 w (dgn 65536 16 0) w1 from ⟨by rw [← made_zeros]; exact h1, (Below.refl w.heap.size w).grown h2 (Nat.le_refl _) (fun k hk => by cases hk)⟩)
  clear h1 h2
  have f0 := R0.out.free 0
  have f1 := R0.out.free 1
  have c0 := R0.out.cell 0 0 (by decide) (by decide)
  have c1 := R0.out.cell 1 0 (by decide) (by decide)
  have R1 := Lib.hid ((R0.out.put 0 (n % 65536) (.int .i64 ((n : Int) % 65536)) (by simp)).put 1 (n / 65536) (.int .i64 ((n : Int) / 65536)) (by simp))
  generalize w.heap.size = g at *
  go_wp2_with fail
  go_ret
  exact ⟨R1.out.bel, _, rfl, (show DS _ 0 _ 16 n from ⟨(show DS _ w.heap.size _ 16 n from ⟨by have := R1.out.own; rw [HD.out] at this; exact this, HL.out, by decide, by decide⟩).base (Nat.zero_le _) |>.1, HL.out, by decide, by decide⟩)⟩
end Go.Proofs.Ythlmphloalbhnaa

/-
  A region that draws its order: two elements are built and appended, one behind the other, to a slice that is the function's own; all its other operations have come up. (The second element may be built at any time.)
-/
namespace Go.Proofs.Ythlmphloalbhnaa
open Go.RowKit MS

section
variable {P : Program} {ops : Array Oper} {Q : Exit → Act → World → Prop}
theorem wpAnyH_take_at {md : Region.Mode} {S : World → Prop} {i d : Nat} {oi : Oper} {v : Value} {fuel : Nat} {listed : Array Bool} {a : Act} {w : World} (hi : ops[i]? = some oi)
    (hs : Region.noSelect ops = true) (hf : Region.free md ops listed i = true) (hr : (Region.ready md ops listed).contains i = true)
    (hQ : ∀ c a w, Q (.panic c) (a.put (some d) v) w → Q (.panic c) a w) (hd : oi.dst = some d) (hy : YieldsIf P ops S oi v a) (hS : S w)
    (h : wpAnyH P md ops Q S fuel (listed.setIfInBounds i true) (a.put (some d) v) w) : wpAnyH P md ops Q S (fuel + 1) listed a w :=
  wpAnyH_take hi hs hf hr (by rw [hd]; exact hQ) hy hS (by rw [hd]; exact h)
theorem wpOp_build1 {i : Nat} {o : Oper} {d s U E : Nat} {u : Value} {K : Act → World → Prop} {a : Act} {w : World} (hi : ops[i]? = some o) (hg : o.guard = none) (hd : o.dst = some d) (ho : o.op = .buildSlice U 1 #[(0, .tmp s)])
    (hrun : (Instr.buildSlice U 1 #[(0, u)]).run P w = .ok (.slice (some ⟨w.heap.size, 0, none⟩) 1 1) (w.alloc (.cells #[u] E (0, 0)))) (hu : a.eval (.tmp s) = u)
    (h : K (a.put (some d) (.slice (some ⟨w.heap.size, 0, none⟩) 1 1)) (w.alloc (.cells #[u] E (0, 0)))) : wpOp P ops Q i K a w := by
  unfold wpOp
  simp only [hi]
  have hw : Region.wanted o (yielded ops a.tmps) = true := by simp [Region.wanted, hg]
  rw [if_pos hw]
  refine .inl ?_
  unfold Oper.wp execOp
  simp only [ho, List.map_toArray, List.map_cons, List.map_nil, hu, Sem.run_bind, Sem.run_pure, Result.andThen_ok, hrun, Oper.upon, hd]
  exact h
theorem wpOp_app1 {i : Nat} {o : Oper} {d s x U E B n g : Nat} {i0 : TypeInfo} {z v u : Value} {xs : List Value} {K : Act → World → Prop} {a : Act} {w w0 : World} (hi : ops[i]? = some o) (hg : o.guard = none) (hd : o.dst = some d)
    (ho : o.op = .call { callee := .builtin .append, args := #[.tmp s, .tmp x], argTypes := #[U, U] }) (ht : P.underlying U = some (.slice E)) (hi0 : P.info? E = some i0) (hz : i0.zero = some z) (hz1 : i0.size = 1) (hz2 : i0.bytes = B) (hzs : z.cells.size = 1)
    (hs : a.eval (.tmp s) = v) (hx : a.eval (.tmp x) = .slice (some ⟨g, 0, none⟩) 1 1) (hown : w.ownsRow w0.heap.size E 1 v n xs) (hbel : Below w0.heap.size w0 w) (hrow : w.heap[g]? = some (.cells #[u] E (0, 0))) (hu : u.oneCell' = true)
    (h63 : n + 1 ≤ maxLen) (hbytes : (n + 1) * B ≤ 140737488355328)
    (h : ∀ v' w', w'.ownsRow w0.heap.size E 1 v' (n + 1) (xs ++ [u]) → Below w0.heap.size w0 w' → (∀ g' o', v.ownBlock ≠ some g' → w.heap[g']? = some o' → w'.heap[g']? = some o') → w.heap.size ≤ w'.heap.size → K (a.put (some d) v') w') : wpOp P ops Q i K a w := by
  unfold wpOp
  simp only [hi]
  have hw : Region.wanted o (yielded ops a.tmps) = true := by simp [Region.wanted, hg]
  rw [if_pos hw]
  refine .inl ?_
  refine wp_append_lies w (.tmp s) (.tmp x) U ho w0.heap.size E i0 z 1 B ht hi0 hz hz1 hz2 hzs (by decide) v n xs hs hown ⟨g, 0, none⟩ 1 1 [u] hx rfl (World.news_of_block (cs := #[u]) hrow) (by intro y hy; rw [List.mem_singleton.1 hy]; exact hu) (by decide) h63 hbytes hbel.size _ rfl ?_
  intro g' cap w' h1 h2 _ _
  rw [hd]
  refine h _ _ h1 (hbel.grown h2 hbel.size (fun m hm => (hown.lt m hm).1)) (fun k o' hk ho' => ?_) h2.size
  have hlt : k < w.heap.size := (Array.getElem?_eq_some_iff.1 ho').1
  rw [h2.block k hlt (Ne.symm hk)]
  exact ho'
theorem wpOp_assign {i : Nat} {o : Oper} {d s : Nat} {v : Value} {K : Act → World → Prop} {a : Act} {w : World} (hi : ops[i]? = some o) (hg : o.guard = none) (hd : o.dst = some d) (ho : o.op = .assign (.tmp s)) (hv : a.eval (.tmp s) = v) (h : K (a.put (some d) v) w) : wpOp P ops Q i K a w := by
  unfold wpOp
  simp only [hi]
  have hw : Region.wanted o (yielded ops a.tmps) = true := by simp [Region.wanted, hg]
  rw [if_pos hw]
  refine .inl ?_
  unfold Oper.wp
  rw [BigFrame.run_assign (.tmp s) ho]
  simp only [Oper.upon, hd, hv]
  exact h

/-- A slice that the function owns, a class of worlds. -/
theorem two_app {L : Array Bool} {A : Act} {w w0 : World} {i1 i2 i3 i4 i5 U E B n s0 d1 d2 d3 d4 d5 x1 x3 : Nat} {o1 o2 o3 o4 o5 : Oper} {i0 : TypeInfo} {z v u1 u2 : Value} {xs : List Value}
    (h1 : ops[i1]? = some o1) (h2 : ops[i2]? = some o2) (h3 : ops[i3]? = some o3) (h4 : ops[i4]? = some o4) (h5 : ops[i5]? = some o5)
    (g1 : o1.guard = none) (g2 : o2.guard = none) (g3 : o3.guard = none) (g4 : o4.guard = none) (g5 : o5.guard = none)
    (e1 : o1.dst = some d1) (e2 : o2.dst = some d2) (e3 : o3.dst = some d3) (e4 : o4.dst = some d4) (e5 : o5.dst = some d5)
    (p1 : o1.op = .buildSlice U 1 #[(0, .tmp x1)]) (p3 : o3.op = .buildSlice U 1 #[(0, .tmp x3)])
    (p2 : o2.op = .call { callee := .builtin .append, args := #[.tmp s0, .tmp d1], argTypes := #[U, U] })
    (p4 : o4.op = .call { callee := .builtin .append, args := #[.tmp d2, .tmp d3], argTypes := #[U, U] }) (p5 : o5.op = .assign (.tmp d4))
    (r0 : Region.ready .any ops L = [i1, i3]) (r1 : Region.ready .any ops (L.setIfInBounds i1 true) = [i2, i3]) (r3 : Region.ready .any ops (L.setIfInBounds i3 true) = [i1])
    (r12 : Region.ready .any ops ((L.setIfInBounds i1 true).setIfInBounds i2 true) = [i3]) (r13 : Region.ready .any ops ((L.setIfInBounds i1 true).setIfInBounds i3 true) = [i2])
    (r4 : Region.ready .any ops (((L.setIfInBounds i1 true).setIfInBounds i2 true).setIfInBounds i3 true) = [i4])
    (r5 : Region.ready .any ops ((((L.setIfInBounds i1 true).setIfInBounds i2 true).setIfInBounds i3 true).setIfInBounds i4 true) = [i5])
    (r6 : Region.ready .any ops (((((L.setIfInBounds i1 true).setIfInBounds i2 true).setIfInBounds i3 true).setIfInBounds i4 true).setIfInBounds i5 true) = [])
    (hne : d1 ≠ d2 ∧ d1 ≠ d3 ∧ d2 ≠ d3 ∧ d1 ≠ s0 ∧ d3 ≠ s0 ∧ d1 ≠ x3 ∧ d2 ≠ x3 ∧ d3 ≠ x1 ∧ i1 ≠ i3 ∧ i2 ≠ i3) (hsz : d1 < A.tmps.size ∧ d2 < A.tmps.size ∧ d3 < A.tmps.size ∧ d4 < A.tmps.size)
    (ht : P.underlying U = some (.slice E)) (hi0 : P.info? E = some i0) (hz : i0.zero = some z) (hz1 : i0.size = 1) (hz2 : i0.bytes = B) (hzs : z.cells.size = 1)
    (hrun : ∀ (u : Value) (w : World), u.oneCell' = true → (Instr.buildSlice U 1 #[(0, u)]).run P w = .ok (.slice (some ⟨w.heap.size, 0, none⟩) 1 1) (w.alloc (.cells #[u] E (0, 0))))
    (hv : A.eval (.tmp s0) = v) (hu1 : A.eval (.tmp x1) = u1) (hu2 : A.eval (.tmp x3) = u2) (c1 : u1.oneCell' = true) (c2 : u2.oneCell' = true)
    (hown : w.ownsRow w0.heap.size E 1 v n xs) (hbel : Below w0.heap.size w0 w) (h63 : n + 2 ≤ maxLen) (hbytes : (n + 2) * B ≤ 140737488355328)
    (hK : ∀ t1 t2 t3 t4 w', w'.ownsRow w0.heap.size E 1 t4 (n + 2) (xs ++ [u1, u2]) → Below w0.heap.size w0 w' → Q .normal (((((A.put (some d1) t1).put (some d2) t2).put (some d3) t3).put (some d4) t4).put (some d5) t4) w') :
    wpAnyH P .any ops Q (fun w' => Below w0.heap.size w0 w') 5 L A w := by
  obtain ⟨n12, n13, n23, n1s, n3s, n1x, n2x, n3x, m13, m23⟩ := hne
  obtain ⟨z1, z2, z3, z4⟩ := hsz
  have sz : ∀ (a : Act) d v, (a.put d v).tmps.size = a.tmps.size := fun a d v => by cases d <;> simp [Act.put]
  have cm : ∀ (a : Act) (x y : Nat) v u, x ≠ y → (a.put (some x) v).put (some y) u = (a.put (some y) u).put (some x) v := fun a x y v u h => Act.put_comm a v u (by intro d hd e; cases hd; cases e; exact h rfl)
  have ne : ∀ (a : Act) (d j : Nat) v, d ≠ j → (a.put (some d) v).eval (.tmp j) = a.eval (.tmp j) := Act.eval_put_ne
  -- the last append, and the assignment
  have F4 : ∀ t1 t2 b3 w', w'.ownsRow w0.heap.size E 1 t2 (n + 1) (xs ++ [u1]) → w'.heap[b3]? = some (.cells #[u2] E (0, 0)) → Below w0.heap.size w0 w' →
      wpAnyH P .any ops Q (fun w' => Below w0.heap.size w0 w') 2 (((L.setIfInBounds i1 true).setIfInBounds i2 true).setIfInBounds i3 true) (((A.put (some d1) t1).put (some d2) t2).put (some d3) (.slice (some ⟨b3, 0, none⟩) 1 1)) w' := by
    intro t1 t2 b3 w' ho hr hb
    refine wpAnyH_all r4 (by simp) (List.forall_mem_singleton.2 ?_)
    refine wpOp_app1 h4 g4 e4 p4 ht hi0 hz hz1 hz2 hzs (v := t2) (g := b3) (by rw [ne _ _ _ _ n23.symm]; exact Act.eval_put_same _ _ _ (by rw [sz]; exact z2)) (Act.eval_put_same _ _ _ (by rw [sz, sz]; exact z3)) ho hb hr c2 h63 hbytes ?_
    intro v' w'' ho' hb' _ _
    refine ⟨hb', wpAnyH_all r5 (by simp) (List.forall_mem_singleton.2 ?_)⟩
    refine wpOp_assign h5 g5 e5 p5 (v := v') (Act.eval_put_same _ _ _ (by rw [sz, sz, sz]; exact z4)) ⟨hb', wpAnyH_done r6 ?_ _⟩
    exact hK _ _ _ _ _ (by rw [List.append_assoc] at ho'; exact ho') hb'
  -- the second is built behind the first append
  have F3 : ∀ t1 t2 w', w'.ownsRow w0.heap.size E 1 t2 (n + 1) (xs ++ [u1]) → Below w0.heap.size w0 w' →
      wpAnyH P .any ops Q (fun w' => Below w0.heap.size w0 w') 3 ((L.setIfInBounds i1 true).setIfInBounds i2 true) ((A.put (some d1) t1).put (some d2) t2) w' := by
    intro t1 t2 w' ho hb
    refine wpAnyH_all r12 (by simp) (List.forall_mem_singleton.2 ?_)
    refine wpOp_build1 (u := u2) h3 g3 e3 p3 (hrun _ _ c2) (by rw [ne _ _ _ _ n2x, ne _ _ _ _ n1x]; exact hu2) ⟨below_alloc hb _, ?_⟩
    exact F4 _ _ _ _ (ho.alloc _) (heap_alloc_new _ _) (below_alloc hb _)
  -- both are built
  have F2 : ∀ b1 b3 w', w'.ownsRow w0.heap.size E 1 v n xs → w'.heap[b1]? = some (.cells #[u1] E (0, 0)) → w'.heap[b3]? = some (.cells #[u2] E (0, 0)) → v.ownBlock ≠ some b3 → Below w0.heap.size w0 w' →
      wpAnyH P .any ops Q (fun w' => Below w0.heap.size w0 w') 3 ((L.setIfInBounds i1 true).setIfInBounds i3 true) ((A.put (some d1) (.slice (some ⟨b1, 0, none⟩) 1 1)).put (some d3) (.slice (some ⟨b3, 0, none⟩) 1 1)) w' := by
    intro b1 b3 w' ho hr1 hr3 hno hb
    refine wpAnyH_all r13 (by simp) (List.forall_mem_singleton.2 ?_)
    refine wpOp_app1 h2 g2 e2 p2 ht hi0 hz hz1 hz2 hzs (v := v) (g := b1) (by rw [ne _ _ _ _ n3s, ne _ _ _ _ n1s]; exact hv) (by rw [ne _ _ _ _ n13.symm]; exact Act.eval_put_same _ _ _ z1) ho hb hr1 c1 (by omega) (Nat.le_trans (Nat.mul_le_mul_right _ (by omega)) hbytes) ?_
    intro v' w'' ho' hb' hkeep _
    refine ⟨hb', ?_⟩
    rw [Array.setIfInBounds_comm _ _ (Ne.symm m23), cm _ _ _ _ _ n23.symm]
    exact F4 _ _ _ _ ho' (hkeep _ _ hno hr3) hb'
  have hlt : ∀ w' : World, w'.ownsRow w0.heap.size E 1 v n xs → v.ownBlock ≠ some w'.heap.size := fun w' ho h => by have := (ho.lt _ h).2; omega
  refine wpAnyH_all r0 (by simp) ?_
  intro j hj
  rcases List.mem_cons.1 hj with rfl | hj
  · refine wpOp_build1 (u := u1) h1 g1 e1 p1 (hrun _ _ c1) hu1 ⟨below_alloc hbel _, wpAnyH_all r1 (by simp) ?_⟩
    intro j hj
    rcases List.mem_cons.1 hj with rfl | hj
    · refine wpOp_app1 h2 g2 e2 p2 ht hi0 hz hz1 hz2 hzs (v := v) (g := w.heap.size) (by rw [ne _ _ _ _ n1s]; exact hv) (Act.eval_put_same _ _ _ z1) (hown.alloc _) (below_alloc hbel _) (heap_alloc_new _ _) c1 (by omega) (Nat.le_trans (Nat.mul_le_mul_right _ (by omega)) hbytes) ?_
      intro v' w'' ho' hb' _ _
      exact ⟨hb', F3 _ _ _ ho' hb'⟩
    · rw [List.mem_singleton.1 hj]
      refine wpOp_build1 (u := u2) h3 g3 e3 p3 (hrun _ _ c2) (by rw [ne _ _ _ _ n1x]; exact hu2) ⟨below_alloc (below_alloc hbel _) _, ?_⟩
      refine F2 _ _ _ ((hown.alloc _).alloc _) ?_ (heap_alloc_new _ _) (hlt _ (hown.alloc _)) (below_alloc (below_alloc hbel _) _)
      rw [heap_alloc_old _ _ (by rw [World.size_alloc]; omega)]
      exact heap_alloc_new _ _
  · rw [List.mem_singleton.1 hj]
    refine wpOp_build1 (u := u2) h3 g3 e3 p3 (hrun _ _ c2) hu2 ⟨below_alloc hbel _, wpAnyH_all r3 (by simp) (List.forall_mem_singleton.2 ?_)⟩
    refine wpOp_build1 (u := u1) h1 g1 e1 p1 (hrun _ _ c1) (by rw [ne _ _ _ _ n3x]; exact hu1) ⟨below_alloc (below_alloc hbel _) _, ?_⟩
    rw [Array.setIfInBounds_comm _ _ (Ne.symm m13), cm _ _ _ _ _ n13.symm]
    refine F2 _ _ _ ((hown.alloc _).alloc _) (heap_alloc_new _ _) ?_ (hlt _ hown) (below_alloc (below_alloc hbel _) _)
    rw [heap_alloc_old _ _ (by rw [World.size_alloc]; omega)]
    exact heap_alloc_new _ _
end
end Go.Proofs.Ythlmphloalbhnaa

/-
  mailsackref03.Bytes: the walk.
-/
namespace Go.Proofs.Ythlmphloalbhnaa
open Go.RowKit MS

theorem le32_two (u j : Nat) (hj : j < 16) : vls ((le32 u).take (2 * j)) ++ [.int .u8 (((u / 65536 ^ j % 65536 : Nat) : Int) % 256), .int .u8 (((u / 65536 ^ j % 65536 : Nat) : Int) / 256)] = vls ((le32 u).take (2 * (j + 1))) := by
  have hl := length_le32 u
  have h0 : 2 * j < (le32 u).length := by omega
  have h1 : 2 * j + 1 < (le32 u).length := by omega
  have e : (le32 u).take (2 * (j + 1)) = (le32 u).take (2 * j) ++ [(le32 u)[2 * j]'h0, (le32 u)[2 * j + 1]'h1] := by
    rw [show 2 * (j + 1) = 2 * j + 1 + 1 by omega, List.take_succ_eq_append_getElem h1, List.take_succ_eq_append_getElem h0, List.append_assoc]
    rfl
  have p0 : (2 : Nat) ^ (8 * (2 * j)) = 65536 ^ j := by rw [show 8 * (2 * j) = 16 * j by omega, Nat.pow_mul]
  have p1 : (2 : Nat) ^ (8 * (2 * j + 1)) = 65536 ^ j * 256 := by rw [show 8 * (2 * j + 1) = 16 * j + 8 by omega, Nat.pow_add, Nat.pow_mul]
  have k0 : ((le32 u)[2 * j]'h0).toNat = u / 65536 ^ j % 65536 % 256 := by
    simp only [le32, List.getElem_map, List.getElem_range, p0]
    rw [UInt8.toNat_ofNat', Nat.mod_mod_of_dvd _ (by decide : 256 ∣ 65536)]
    exact Nat.mod_mod _ _
  have k1 : ((le32 u)[2 * j + 1]'h1).toNat = u / 65536 ^ j % 65536 / 256 := by
    simp only [le32, List.getElem_map, List.getElem_range, p1]
    rw [UInt8.toNat_ofNat', ← Nat.div_div_eq_div_mul]
    have : ∀ y : Nat, y / 256 % 256 % 2 ^ 8 = y % 65536 / 256 := by intro y; omega
    exact this _
  rw [e]
  unfold vls
  rw [List.map_append]
  congr 1
  simp only [List.map_cons, List.map_nil, valB, k0, k1, Int.natCast_ediv, Int.natCast_emod]
  rfl

theorem wr_u8 (y : Int) (h0 : 0 ≤ y) (h1 : y < 256) : IntKind.u8.wrap y = y := by
  simp [IntKind.wrap, IntKind.signed, IntKind.bits]; omega
theorem wr_i64 (y : Int) (h0 : 0 ≤ y) (h1 : y < 65536) : IntKind.i64.wrap y = y := by
  simp [IntKind.wrap, IntKind.signed, IntKind.bits]; omega

theorem run_build_u8 (u : Value) (w : World) (h : u.oneCell' = true) : (Instr.buildSlice 54 1 #[(0, u)]).run Try.prog w = .ok (.slice (some ⟨w.heap.size, 0, none⟩) 1 1) (w.alloc (.cells #[u] 5 (0, 0))) := by
  cases u <;> simp [Value.oneCell'] at h <;> go_simp

set_option maxRecDepth 1000000 in
set_option maxHeartbeats 2000000 in
theorem rfbytes_any (u : Nat) (va : Value) (ba : Nat) (w : World) (ha : DS w ba va 16 u) :
    Calls Try.prog 18 #[va] w fun e w' => e = .returned (.string (bs (le32 u))) ∧ Below w.heap.size w w' := by
  obtain ⟨i0, hi, hz0, hz1, hz2⟩ : ∃ i, Try.prog.info? 5 = some i ∧ i.zero = some (.int .u8 0) ∧ i.size = 1 ∧ i.bytes = 1 := ⟨_, rfl, rfl, rfl, rfl⟩
  obtain ⟨ga, ca, rfl, -, -⟩ := ha.form
  have HA := Lib.hid ha.cells
  have hown0 : w.ownsRow w.heap.size 5 1 (.slice none 0 0) 0 (vls ((le32 u).take 0)) := World.ownsRow_nil _ _ _ _
  clear ha
  go_enter Try.func18, Try.ntmps18
  go_wp2_with fail
  go_loopw [3, 4] (fun x i wr => ∃ j : Nat, j ≤ 16 ∧ i = .int .i64 j ∧ wr.ownsRow w.heap.size 5 1 x (2 * j) (vls ((le32 u).take (2 * j))) ∧ Below w.heap.size w wr) (fun _ i _ => 16 - (intOf i).toNat)
  case atStart => exact ⟨0, by omega, rfl, hown0, Below.refl _ _⟩
  case round =>
    obtain ⟨j, hj, rfl, ho, hb⟩ := hrel
    have HOWN := Lib.hid ho
    have HBL := Lib.hid hb
    have HJ := Lib.hid hj
    clear ho hown0 hj hb
    by_cases hlt : j < 16
    · have j1 : (j : Int) < 16 := by omega
      have j0 : (0 : Int) ≤ j := by omega
      have hc : ∀ w', Below w.heap.size w w' → w'.cell? ⟨ga, j, none⟩ = some (.int .i64 ((u / 65536 ^ j % 65536 : Nat) : Int)) := fun w' h => HA.out w' h j hlt
      have HT := Lib.hid (le32_two u j hlt)
      have hx := dig_lt 65536 (by decide) u j
      generalize u / 65536 ^ j % 65536 = x at *
      have x1 : (x : Int) < 65536 := by omega
      have x0 : (0 : Int) ≤ (x : Int) := by omega
      have HC := Lib.hid hc
      have HLT := Lib.hid hlt
      clear hx hlt hc
      go_wp2_with fail
      refine wp_region_held (S := fun w' => Below w.heap.size w w') (by kernel_rfl) ?_
      change wpAnyH _ _ _ _ _ _ _ _ (World.drew _)
      have HS : Below w.heap.size w wr.drew := HBL.out.drew
      refine wpAnyH_take_at (i := 0) (d := 9) (v := u3) rfl (by kernel_rfl) (by kernel_rfl) (by kernel_rfl) (fun _ _ _ h => h) rfl (Or.inl ⟨by rfl, by intro w1 _; go_simp⟩) HS ?_
      simp only [Act.put, List.setIfInBounds_toArray, List.set_cons_zero, List.set_cons_succ]
      refine wpAnyH_take_at (i := 1) (d := 10) (v := .slice (some ⟨ga, 0, none⟩) 16 ca) rfl (by kernel_rfl) (by kernel_rfl) (by kernel_rfl) (fun _ _ _ h => h) rfl (Or.inl ⟨by rfl, by intro w1 _; go_simp⟩) HS ?_
      simp only [Act.put, List.setIfInBounds_toArray, List.set_cons_zero, List.set_cons_succ]
      refine wpAnyH_take_at (i := 2) (d := 11) (v := .int .i64 j) rfl (by kernel_rfl) (by kernel_rfl) (by kernel_rfl) (fun _ _ _ h => h) rfl (Or.inl ⟨by rfl, by intro w1 _; go_simp⟩) HS ?_
      simp only [Act.put, List.setIfInBounds_toArray, List.set_cons_zero, List.set_cons_succ]
      refine wpAnyH_take_at (i := 3) (d := 12) (v := .pointer (some ⟨ga, j, none⟩)) rfl (by kernel_rfl) (by kernel_rfl) (by kernel_rfl) (fun _ _ _ h => h) rfl (Or.inl ⟨by rfl, by intro w1 _; go_simp⟩) HS ?_
      simp only [Act.put, List.setIfInBounds_toArray, List.set_cons_zero, List.set_cons_succ]
      refine wpAnyH_take_at (i := 4) (d := 13) (v := .int .i64 x) rfl (by kernel_rfl) (by kernel_rfl) (by kernel_rfl) (fun _ _ _ h => h) rfl (Or.inl ⟨by rfl, by intro w1 h1; have hc := HC.out w1 h1; go_simp⟩) HS ?_
      simp only [Act.put, List.setIfInBounds_toArray, List.set_cons_zero, List.set_cons_succ]
      refine wpAnyH_take_at (i := 5) (d := 14) (v := .int .i64 ((x : Int) % 256)) rfl (by kernel_rfl) (by kernel_rfl) (by kernel_rfl) (fun _ _ _ h => h) rfl (Or.inl ⟨by rfl, by intro w1 _; go_simp; exact Int.tmod_eq_emod_of_nonneg x0⟩) HS ?_
      simp only [Act.put, List.setIfInBounds_toArray, List.set_cons_zero, List.set_cons_succ]
      refine wpAnyH_take_at (i := 6) (d := 15) (v := .int .u8 ((x : Int) % 256)) rfl (by kernel_rfl) (by kernel_rfl) (by kernel_rfl) (fun _ _ _ h => h) rfl (Or.inl ⟨by rfl, by intro w1 _; go_simp; exact wr_u8 _ (by omega) (by omega)⟩) HS ?_
      simp only [Act.put, List.setIfInBounds_toArray, List.set_cons_zero, List.set_cons_succ]
      refine wpAnyH_take_at (i := 9) (d := 18) (v := .slice (some ⟨ga, 0, none⟩) 16 ca) rfl (by kernel_rfl) (by kernel_rfl) (by kernel_rfl) (fun _ _ _ h => h) rfl (Or.inl ⟨by rfl, by intro w1 _; go_simp⟩) HS ?_
      simp only [Act.put, List.setIfInBounds_toArray, List.set_cons_zero, List.set_cons_succ]
      refine wpAnyH_take_at (i := 10) (d := 19) (v := .int .i64 j) rfl (by kernel_rfl) (by kernel_rfl) (by kernel_rfl) (fun _ _ _ h => h) rfl (Or.inl ⟨by rfl, by intro w1 _; go_simp⟩) HS ?_
      simp only [Act.put, List.setIfInBounds_toArray, List.set_cons_zero, List.set_cons_succ]
      refine wpAnyH_take_at (i := 11) (d := 20) (v := .pointer (some ⟨ga, j, none⟩)) rfl (by kernel_rfl) (by kernel_rfl) (by kernel_rfl) (fun _ _ _ h => h) rfl (Or.inl ⟨by rfl, by intro w1 _; go_simp⟩) HS ?_
      simp only [Act.put, List.setIfInBounds_toArray, List.set_cons_zero, List.set_cons_succ]
      refine wpAnyH_take_at (i := 12) (d := 21) (v := .int .i64 x) rfl (by kernel_rfl) (by kernel_rfl) (by kernel_rfl) (fun _ _ _ h => h) rfl (Or.inl ⟨by rfl, by intro w1 h1; have hc := HC.out w1 h1; go_simp⟩) HS ?_
      simp only [Act.put, List.setIfInBounds_toArray, List.set_cons_zero, List.set_cons_succ]
      refine wpAnyH_take_at (i := 13) (d := 22) (v := .int .i64 ((x : Int) / 256)) rfl (by kernel_rfl) (by kernel_rfl) (by kernel_rfl) (fun _ _ _ h => h) rfl (Or.inl ⟨by rfl, by intro w1 _; go_simp; exact wr_i64 _ (by omega) (by omega)⟩) HS ?_
      simp only [Act.put, List.setIfInBounds_toArray, List.set_cons_zero, List.set_cons_succ]
      refine wpAnyH_take_at (i := 14) (d := 23) (v := .int .u8 ((x : Int) / 256)) rfl (by kernel_rfl) (by kernel_rfl) (by kernel_rfl) (fun _ _ _ h => h) rfl (Or.inl ⟨by rfl, by intro w1 _; go_simp; exact wr_u8 _ (by omega) (by omega)⟩) HS ?_
      simp only [Act.put, List.setIfInBounds_toArray, List.set_cons_zero, List.set_cons_succ]
      refine two_app (i1 := 7) (i2 := 8) (i3 := 15) (i4 := 16) (i5 := 17) (w0 := w) (d1 := 16) (d2 := 17) (d3 := 24) (d4 := 25) (d5 := 3) (s0 := 9) (x1 := 15) (x3 := 23) (U := 54) (E := 5) (B := 1) (n := 2 * j) (v := u3) (u1 := .int .u8 ((x : Int) % 256)) (u2 := .int .u8 ((x : Int) / 256)) (xs := vls ((le32 u).take (2 * j)))
        (by rfl) (by rfl) (by rfl) (by rfl) (by rfl) (by rfl) (by rfl) (by rfl) (by rfl) (by rfl) (by rfl) (by rfl) (by rfl) (by rfl) (by rfl) (by rfl) (by rfl) (by rfl) (by rfl) (by rfl)
        (by kernel_rfl) (by kernel_rfl) (by kernel_rfl) (by kernel_rfl) (by kernel_rfl) (by kernel_rfl) (by kernel_rfl) (by kernel_rfl) (by decide) (by simp) Try.underlying54 hi hz0 hz1 hz2 rfl run_build_u8 (by rfl) (by rfl) (by rfl) (by rfl) (by rfl) HOWN.out HS (by have := HLT.out; unfold maxLen; omega) (by have := HLT.out; omega) ?_
      intro t1 t2 t3 t4 w1 ho1 hb1
      rw [HT.out] at ho1
      have HO1 := Lib.hid ho1
      have HB1 := Lib.hid hb1
      clear ho1 hb1
      simp only [Act.put, List.setIfInBounds_toArray, List.set_cons_zero, List.set_cons_succ]
      go_wp2_with fail
      go_roundw
      case rel => exact ⟨j + 1, HLT.out, by go_num, HO1.out, HB1.out⟩
      case measure => simp [intOf]; omega
    · have j1 : ¬ (j : Int) < 16 := by omega
      have hj16 : j = 16 := by have := HJ.out; omega
      subst hj16
      obtain ⟨g, cap, rfl, -, -⟩ := HOWN.out.form (by decide)
      have hconv := conv_out (le32 u) 32 (length_le32 u) (show wr.ownsRow w.heap.size _ 1 (.slice (some ⟨g, 0, none⟩) 32 cap) 32 (vls (le32 u)) from by have := HOWN.out; rwa [List.take_of_length_le (by rw [length_le32]; omega)] at this)
      clear hlt
      go_wp2_with fail
      go_ret
      exact ⟨rfl, HBL.out⟩
end Go.Proofs.Ythlmphloalbhnaa

/-
  mailsackref03.Parts and mailsacklaw03.num: the walks.
-/
namespace Go.Proofs.Ythlmphloalbhnaa
open Go.RowKit MS

/-- Limbs of 51 bits, the d highest ones of five. -/
def horn (L : Nat → Nat) : Nat → Nat
  | 0 => 0
  | d + 1 => horn L d * 2251799813685248 + L (4 - d)
theorem horn_five (x : N5) (L : Nat → Nat) (h0 : L 0 = x.a) (h1 : L 1 = x.b) (h2 : L 2 = x.c) (h3 : L 3 = x.d) (h4 : L 4 = x.e) : horn L 5 = x.v := by
  simp only [horn, N5.v, Nat.sub_self, h0, show L (4 - 0) = L 4 from rfl, show L (4 - 1) = L 3 from rfl, show L (4 - 2) = L 2 from rfl, show L (4 - 3) = L 1 from rfl, h1, h2, h3, h4]
  omega
theorem four_digits (x : Nat) (h : x < 18446744073709551616) : dvs (dgn 65536 4 x) = [.int .i64 ((x : Int) % 65536), .int .i64 ((x : Int) / 65536 % 65536), .int .i64 ((x : Int) / 4294967296 % 65536), .int .i64 ((x : Int) / 281474976710656)] := by
  have e : dgn 65536 4 x = [x % 65536, x / 65536 % 65536, x / 4294967296 % 65536, x / 281474976710656] := by
    have h3 : x / 281474976710656 % 65536 = x / 281474976710656 := Nat.mod_eq_of_lt (by omega)
    rw [← h3]
    simp [dgn, List.range_succ]
  rw [e]
  simp [dvs]
theorem horn_mod (u P x : Nat) (h : u % Q' = P % Q') : (u * 2251799813685248 + x) % Q' = (P * 2251799813685248 + x) % Q' := by
  rw [Nat.add_mod, Nat.mul_mod, h, ← Nat.mul_mod, ← Nat.add_mod]

set_option maxRecDepth 1000000 in
set_option maxHeartbeats 4000000 in
theorem rfparts_any (L : Nat → Nat) (hL : ∀ i, i < 5 → L i < 18446744073709551616) (gl : Nat) (w : World) (hc : ∀ w', Below w.heap.size w w' → ∀ i, i < 5 → w'.cell? ⟨gl, i, none⟩ = some (.int .u64 ((L i : Nat) : Int))) :
    Calls Try.prog 37 #[.slice (some ⟨gl, 0, none⟩) 5 5] w fun e w' => Below w.heap.size w w' ∧ ∃ r, e = .returned r ∧ DS w' 0 r 16 (horn L 5 % Q') := by
  obtain ⟨i0, hi, hz0, hz1, hz2⟩ : ∃ i, Try.prog.info? 3 = some i ∧ i.zero = some (.int .i64 0) ∧ i.size = 1 ∧ i.bytes = 8 := ⟨_, rfl, rfl, rfl, rfl⟩
  have HC := Lib.hid hc
  have HL := Lib.hid hL
  clear hc hL
  go_enter Try.func37, Try.ntmps37
  go_wp2_with (at_make; refine wpList_make_full w rfl (.const (.int .i64 17)) (.const (.int .i64 17)) 26 rfl w.heap.size 3 i0 (.int .i64 0) 1 Try.underlying26 hi hz0 hz1 .i64 .i64 17 17 17 rfl rfl rfl rfl (by rw [hz2]; decide) (by decide) (Nat.le_refl _) ?_)
  intro w1 h1 h2
  have R0 := Lib.hid (show DS w1 0 (.slice (some ⟨w.heap.size, 0, none⟩) 17 17) 17 0 ∧ Below w.heap.size w w1 from ⟨(show DS w1 w.heap.size _ 17 0 from ⟨by rw [dg_zero, ← dg_zero 65536 17, ← made_zeros]; exact h1, by decide, by decide, by decide⟩).base (Nat.zero_le _), (Below.refl w.heap.size w).grown h2 (Nat.le_refl _) (fun k hk => by cases hk)⟩)
  clear h1 h2
  go_wp2_with fail
  go_loopw [3, 4] (fun x i wr => ∃ d : Nat, d ≤ 5 ∧ i = .int .i64 (4 - (d : Int)) ∧ (∃ n u, 16 ≤ n ∧ n ≤ 17 ∧ (0 < d → n = 16) ∧ (0 < d → u = horn L d % Q') ∧ u % Q' = horn L d % Q' ∧ DS wr 0 x n u) ∧ Below w.heap.size w wr) (fun _ i _ => (intOf i + 1).toNat)
  case atStart => exact ⟨0, by omega, rfl, ⟨17, 0, by decide, by decide, fun h => absurd h (by decide), fun h => absurd h (by decide), rfl, R0.out.1⟩, R0.out.2⟩
  case round =>
    obtain ⟨d, hd, rfl, ⟨n, u, hn0, hn1, hn2, hu0, hu, hds⟩, hb⟩ := hrel
    have HD := Lib.hid hds
    have HB := Lib.hid hb
    have HN := Lib.hid (show 16 ≤ n ∧ n ≤ 17 ∧ (0 < d → n = 16) ∧ (0 < d → u = horn L d % Q') from ⟨hn0, hn1, hn2, hu0⟩)
    have HU := Lib.hid hu
    have HDD := Lib.hid hd
    clear hds hb hn0 hn1 hn2 hu hu0 hd R0
    by_cases hlt : d < 5
    · have j1 : 4 - (d : Int) ≥ 0 := by omega
      have j2 : 4 - (d : Int) < 5 := by omega
      obtain ⟨j, hj⟩ : ∃ j : Nat, j = 4 - d := ⟨_, rfl⟩
      have ej : 4 - (d : Int) = (j : Int) := by omega
      have j3 : (0 : Int) ≤ (j : Int) := by omega
      have j4 : (j : Int) < 5 := by omega
      have j5 : (j : Int) ≥ 0 := by omega
      have HJ := Lib.hid hj
      have HLT := Lib.hid hlt
      rw [ej]
      clear hj j1 j2 hlt ej
      have D8 := Lib.hid (show DS (wr.alloc (.cells #[.int .i64 0, .int .i64 0, .int .i64 0, .int .i64 8] 3 (0, 0))) wr.heap.size (.slice (some ⟨wr.heap.size, 0, none⟩) 4 4) 4 2251799813685248 from ⟨by
        have := World.ownsRow_lit (base := wr.heap.size) (e := 3) (size := 1) wr #[.int .i64 0, .int .i64 0, .int .i64 0, .int .i64 8] 4 (Nat.le_refl _) (by decide) rfl
        exact this, by decide, by decide, by decide⟩)
      have BA := Lib.hid (show Below w.heap.size w (wr.alloc (.cells #[.int .i64 0, .int .i64 0, .int .i64 0, .int .i64 8] 3 (0, 0))) from below_alloc HB.out _)
      have DX := Lib.hid (HD.out.on ((Below.refl wr.heap.size wr).alloc (Nat.le_refl _) (.cells #[.int .i64 0, .int .i64 0, .int .i64 0, .int .i64 8] 3 (0, 0))))
      go_wp2_with fail
      refine (rtimes_any n 4 u 2251799813685248 _ _ _ _ _ DX.out D8.out).mono ?_
      rintro e w2 ⟨hb2, r2, rfl, ho2⟩
      have D2 := Lib.hid (show DS w2 _ r2 (n + 4) (u * 2251799813685248) from ⟨ho2, prod_lt_pow HD.out.2.1 (by decide) (by decide), by omega, by have := HN.out; omega⟩)
      have B2 := Lib.hid (BA.out.trans (hb2.mono BA.out.size))
      clear hb2 ho2 D8 BA DX
      go_wp2_with fail
      have hc : ∀ k, (w2.drewN k).cell? ⟨gl, j, none⟩ = some (.int .u64 ((L j : Nat) : Int)) := fun k => HC.out _ (below_drewN B2.out k) j (by omega)
      have hLj := HL.out j (by omega)
      have HF := Lib.hid (four_digits (L j) hLj)
      have HLJ := Lib.hid hLj
      have hc0 : w2.cell? ⟨gl, j, none⟩ = some (.int .u64 ((L j : Nat) : Int)) := hc 0
      have x0 : (0 : Int) ≤ (L j : Int) := by omega
      have x1 : (L j : Int) < 18446744073709551616 := by omega
      have x2 : (L j : Int) / 65536 < 18446744073709551616 := by omega
      have x3 : (0 : Int) ≤ (L j : Int) / 65536 := by omega
      generalize hx : L j = x at *
      have HX := Lib.hid hx
      clear hx hc hLj
      refine wp_region_any (by kernel_rfl) ?_
      change wpAny _ _ _ _ _ _ _ (World.drew _)
      refine wpAny_take_at (i := 0) (d := 13) (v := r2) rfl (by kernel_rfl) (by kernel_rfl) (by kernel_rfl) (fun _ _ _ h => h) rfl (Or.inl ⟨by rfl, by intro w; go_simp⟩) ?_
      simp only [Act.put, List.setIfInBounds_toArray, List.set_cons_zero, List.set_cons_succ]
      refine wpAny_quiet_mid (fun w' => ∃ k, w' = w2.drewN k) #[true, true, true, true, true, true, true, true, true, true, true, true, true, true, true, true, true, true, true, true, true, true, true, true, true, true, true, false, false, false] 1 26 3 (by kernel_rfl) (by kernel_rfl) (by kernel_rfl) (by kernel_rfl) rfl ⟨1, rfl⟩ ?_
      simp only [List.take_succ_cons, List.take_zero, List.drop_succ_cons, List.drop_zero]
      repeat (go_big_quiet_step (fail))
      refine wpQuiet_nil ?_
      intro _ hw'
      obtain ⟨kk, hw''⟩ := hw'
      subst hw''
      have D3 := Lib.hid (show DS (w2.drewN kk) _ r2 (n + 4) (u * 2251799813685248) from ⟨D2.out.1, D2.out.2⟩)
      have B3 := Lib.hid (below_drewN B2.out kk)
      clear hc0 x0 x1 x2 x3 D2 B2
      refine wpAny_tail 27 3 (by kernel_rfl) rfl ?_
      simp only [List.drop_succ_cons, List.drop_zero]
      generalize w2.drewN kk = w3 at D3 B3 ⊢
      have D4 := Lib.hid (show DS (w3.alloc (.cells #[.int .i64 ((x : Int) % 65536), .int .i64 ((x : Int) / 65536 % 65536), .int .i64 ((x : Int) / 4294967296 % 65536), .int .i64 ((x : Int) / 281474976710656)] 3 (0, 0))) w3.heap.size (.slice (some ⟨w3.heap.size, 0, none⟩) 4 4) 4 x from ⟨by
        have := World.ownsRow_lit (base := w3.heap.size) (e := 3) (size := 1) w3 #[.int .i64 ((x : Int) % 65536), .int .i64 ((x : Int) / 65536 % 65536), .int .i64 ((x : Int) / 4294967296 % 65536), .int .i64 ((x : Int) / 281474976710656)] 4 (Nat.le_refl _) (by decide) rfl
        rw [HF.out]
        exact this, Nat.lt_of_lt_of_le HLJ.out (by decide), by decide, by decide⟩)
      have DY := Lib.hid (D3.out.on ((Below.refl w3.heap.size w3).alloc (Nat.le_refl _) (.cells #[.int .i64 ((x : Int) % 65536), .int .i64 ((x : Int) / 65536 % 65536), .int .i64 ((x : Int) / 4294967296 % 65536), .int .i64 ((x : Int) / 281474976710656)] 3 (0, 0))))
      have B4 := Lib.hid (show Below w.heap.size w (w3.alloc (.cells #[.int .i64 ((x : Int) % 65536), .int .i64 ((x : Int) / 65536 % 65536), .int .i64 ((x : Int) / 4294967296 % 65536), .int .i64 ((x : Int) / 281474976710656)] 3 (0, 0))) from below_alloc B3.out _)
      clear D3 B3
      go_wp2_with fail
      refine (radd_any (n + 4) 4 (u * 2251799813685248) x _ _ _ _ _ DY.out D4.out).mono ?_
      rintro e w5 ⟨hb5, r5, k5, rfl, p1, p2, p3, p4, ho5⟩
      have D5 := Lib.hid (show DS w5 _ r5 k5 (u * 2251799813685248 + x) from ⟨ho5, p4, by omega, by have := HN.out; omega⟩)
      have K5 := Lib.hid (show 16 ≤ k5 by have := HN.out; omega)
      have B5 := Lib.hid (B4.out.trans (hb5.mono B4.out.size))
      clear hb5 ho5 p1 p2 p3 p4 D4 DY B4
      go_wp2_with fail
      refine (rreduce_any _ _ _ _ _ D5.out K5.out).mono ?_
      rintro e w6 ⟨hb6, r6, rfl, hd6⟩
      have B6 := Lib.hid (B5.out.trans (hb6.mono B5.out.size))
      rw [horn_mod u (horn L d) x HU.out] at hd6
      have D6 := Lib.hid (show DS w6 0 r6 16 (horn L (d + 1) % Q') from by
        have e1 : horn L (d + 1) = horn L d * 2251799813685248 + x := by rw [horn, ← HX.out, HJ.out]
        rw [e1]
        exact hd6)
      clear hb6 hd6 D5 B5 K5
      go_wp2_with fail
      go_roundw
      case rel => exact ⟨d + 1, HLT.out, by have := HJ.out; have := HLT.out; go_num, ⟨16, _, by decide, by decide, fun _ => rfl, fun _ => rfl, Nat.mod_mod _ _, D6.out⟩, B6.out⟩
      case measure => simp [intOf]
    · have j1 : ¬ 4 - (d : Int) ≥ 0 := by omega
      have hd5 : d = 5 := by have := HDD.out; omega
      subst hd5
      clear hlt
      go_wp2_with fail
      go_ret
      exact ⟨HB.out, _, rfl, by
        have h1 := HN.out.2.2.1 (by decide)
        have h2 := HN.out.2.2.2 (by decide)
        have := HD.out
        rw [h1, h2] at this
        exact this⟩
end Go.Proofs.Ythlmphloalbhnaa

/-
  mailsackref03.Power: the walk.
-/
namespace Go.Proofs.Ythlmphloalbhnaa
open Go.RowKit MS

set_option maxRecDepth 1000000 in
set_option maxHeartbeats 2000000 in
theorem rfpower_any (u : Nat) (va : Value) (ba : Nat) (w : World) (ha : DS w ba va 16 u) (hu : u < Q') :
    Calls Try.prog 29 #[va] w fun e w' => Below w.heap.size w w' ∧ ∃ r, e = .returned r ∧ DS w' 0 r 16 (u ^ E21 % Q') := by
  have HA := Lib.hid ha
  have HU := Lib.hid (Nat.mod_eq_of_lt hu)
  clear ha hu
  go_enter Try.func29, Try.ntmps29
  go_wp2_with fail
  refine (rfsmall_any 1 (by decide) w).mono ?_
  rintro e w1 ⟨hb1, r1, rfl, hd1⟩
  have R0 := Lib.hid (show DS w1 0 r1 16 (powA u 255) ∧ Below w.heap.size w w1 from ⟨by rw [powA_top]; exact hd1, hb1⟩)
  clear hb1 hd1
  go_wp2_with fail
  go_loopw [3, 4] (fun x i wr => ∃ d : Nat, d ≤ 255 ∧ i = .int .i64 ((d : Int) - 1) ∧ DS wr 0 x 16 (powA u d) ∧ Below w.heap.size w wr) (fun _ i _ => (intOf i + 1).toNat)
  case atStart => exact ⟨255, by decide, rfl, R0.out.1, R0.out.2⟩
  case round =>
    obtain ⟨d, hd, rfl, hds, hb⟩ := hrel
    have HD := Lib.hid hds
    have HB := Lib.hid hb
    have HDD := Lib.hid hd
    clear hds hb hd R0
    cases d with
    | zero =>
      have HE := Lib.hid (powA_end u)
      go_wp2_with fail
      go_ret
      exact ⟨HB.out, _, rfl, by have := HD.out; rw [HE.out] at this; exact this⟩
    | succ d =>
      have e1 : ((d + 1 : Nat) : Int) - 1 = (d : Int) := by omega
      rw [e1]
      have j1 : (d : Int) ≥ 0 := by omega
      have j2 : (d : Int) ≤ 254 := by have := HDD.out; omega
      go_wp2_with fail
      refine (rfmul_any _ _ _ _ _ _ _ HD.out HD.out).mono ?_
      rintro e w2 ⟨hb2, r2, rfl, hd2⟩
      have B2 := Lib.hid (HB.out.trans (hb2.mono HB.out.size))
      have A2 := Lib.hid (HA.out.on B2.out)
      have D2 := Lib.hid hd2
      clear hb2 hd2 HB e1
      by_cases h24 : d = 2 ∨ d = 4
      · have HP := Lib.hid (powA_sq u d (by have := HDD.out; omega) h24)
        rcases h24 with h | h
        · have q2 : ((d : Int) != 2) = false := by simp; omega
          have q3 : (d : Int) = 2 := by omega
          clear h
          go_wp2_with fail
          go_roundw
          case rel => exact ⟨d, by have := HDD.out; omega, by go_num, by have := D2.out; rw [HP.out] at this; exact this, B2.out⟩
          case measure => simp [intOf]; omega
        · have q2 : ((d : Int) != 2) = true := by simp; omega
          have q3 : ¬ (d : Int) = 2 := by omega
          have q4 : ((d : Int) != 4) = false := by simp; omega
          have q5 : (d : Int) = 4 := by omega
          clear h
          go_wp2_with fail
          go_roundw
          case rel => exact ⟨d, by have := HDD.out; omega, by go_num, by have := D2.out; rw [HP.out] at this; exact this, B2.out⟩
          case measure => simp [intOf]; omega
      · have HP := Lib.hid (powA_sqm u d (by have := HDD.out; omega) h24)
        have q2 : ((d : Int) != 2) = true := by simp; omega
        have q3 : ¬ (d : Int) = 2 := by omega
        have q4 : ((d : Int) != 4) = true := by simp; omega
        have q5 : ¬ (d : Int) = 4 := by omega
        clear h24
        go_wp2_with fail
        refine (rfmul_any _ _ _ _ _ _ _ D2.out A2.out).mono ?_
        rintro e w3 ⟨hb3, r3, rfl, hd3⟩
        have B3 := Lib.hid (B2.out.trans (hb3.mono B2.out.size))
        have D3 := Lib.hid (show DS w3 0 r3 16 (powA u d) from by rw [← HP.out, HU.out]; exact hd3)
        clear hb3 hd3 D2 A2 B2
        go_wp2_with fail
        go_roundw
        case rel => exact ⟨d, by have := HDD.out; omega, by go_num, D3.out, B3.out⟩
        case measure => simp [intOf]
end Go.Proofs.Ythlmphloalbhnaa

/-
  Plain number theory: Fermat's little theorem, Pocklington's test, the prime 2^255 - 19.
-/
namespace MSE
/-! ### Plain number theory: Fermat's little theorem, Pocklington's test, the prime 2^255 - 19. -/

def IsPrime (p : Nat) : Prop := 2 ≤ p ∧ ∀ m, m ∣ p → m = 1 ∨ m = p

def prodL : List Nat → Nat
  | [] => 1
  | a :: l => a * prodL l

theorem prodL_perm {l1 l2 : List Nat} (h : l1.Perm l2) : prodL l1 = prodL l2 := by
  induction h with
  | nil => rfl
  | cons x _ ih => simp [prodL, ih]
  | swap x y l => simp [prodL, Nat.mul_left_comm]
  | trans _ _ ih1 ih2 => exact ih1.trans ih2

theorem perm_of_sub : ∀ (l1 l2 : List Nat), l1.Nodup → (∀ x, x ∈ l1 → x ∈ l2) → l2.length ≤ l1.length → l1.Perm l2
  | [], l2, _, _, hl => by
    have : l2 = [] := List.eq_nil_of_length_eq_zero (by simpa using hl)
    subst this; exact List.Perm.refl _
  | a :: t, l2, hn, hs, hl => by
    have ha : a ∈ l2 := hs a (by simp)
    have hp : l2.Perm (a :: l2.erase a) := List.perm_cons_erase ha
    have hn' := List.nodup_cons.1 hn
    refine List.Perm.trans (List.Perm.cons a ?_) hp.symm
    refine perm_of_sub t (l2.erase a) hn'.2 ?_ ?_
    · intro x hx
      have hxa : x ≠ a := by intro e; subst e; exact hn'.1 hx
      exact (List.mem_erase_of_ne hxa).2 (hs x (by simp [hx]))
    · rw [List.length_erase_of_mem ha]; simp at hl; omega

theorem prime_pos {p : Nat} (hp : IsPrime p) : 0 < p := by have := hp.1; omega

theorem prime_coprime {p a : Nat} (hp : IsPrime p) (ha : ¬ p ∣ a) : Nat.Coprime p a := by
  rcases hp.2 (Nat.gcd p a) (Nat.gcd_dvd_left p a) with h | h
  · exact h
  · exact absurd (h ▸ Nat.gcd_dvd_right p a) ha

theorem prime_dvd_mul {p a b : Nat} (hp : IsPrime p) (h : p ∣ a * b) : p ∣ a ∨ p ∣ b := by
  by_cases ha : p ∣ a
  · exact Or.inl ha
  · exact Or.inr ((prime_coprime hp ha).dvd_of_dvd_mul_left h)

theorem prodL_not_dvd {p : Nat} (hp : IsPrime p) : ∀ l : List Nat, (∀ x, x ∈ l → ¬ p ∣ x) → ¬ p ∣ prodL l
  | [], _ => by
    intro h
    have := Nat.le_of_dvd (by decide) h
    have := hp.1
    simp [prodL] at *
    omega
  | a :: l, h => by
    intro hd
    rcases prime_dvd_mul hp hd with h1 | h1
    · exact h a (by simp) h1
    · exact prodL_not_dvd hp l (fun x hx => h x (by simp [hx])) h1

theorem prodL_map_mod (a p : Nat) : ∀ l : List Nat, prodL (l.map fun i => a * i % p) % p = (a ^ l.length * prodL l) % p
  | [] => by simp [prodL]
  | b :: l => by
    have ih := prodL_map_mod a p l
    simp only [List.map_cons, prodL, List.length_cons, Nat.pow_succ]
    rw [Nat.mul_mod, Nat.mod_mod, ih, ← Nat.mul_mod]
    congr 1
    grind

/-- From 'x * c = y * c modulo p' and p prime, not dividing c. -/
theorem cancel_mod {p c x y : Nat} (hp : IsPrime p) (hc : ¬ p ∣ c) (h : (x * c) % p = (y * c) % p) : x % p = y % p := by
  have key : ∀ {u v : Nat}, v ≤ u → (u * c) % p = (v * c) % p → u % p = v % p := by
    intro u v hvu huv
    have hd : p ∣ (u - v) * c := by
      rw [Nat.sub_mul]
      exact Nat.dvd_of_mod_eq_zero (Nat.sub_mod_eq_zero_of_mod_eq huv)
    rcases prime_dvd_mul hp hd with h1 | h1
    · obtain ⟨t, ht⟩ := h1
      rw [show u = v + p * t by omega, Nat.add_mul_mod_self_left]
    · exact absurd h1 hc
  rcases Nat.le_total y x with hle | hle
  · exact key hle h
  · exact (key hle h.symm).symm

theorem fermat {p a : Nat} (hp : IsPrime p) (ha : ¬ p ∣ a) : a ^ (p - 1) % p = 1 := by
  have h2 := hp.1
  let L := List.range' 1 (p - 1)
  have hL : L.Nodup := List.nodup_range'
  have hmem : ∀ x, x ∈ L ↔ 1 ≤ x ∧ x < p := by
    intro x; simp only [L, List.mem_range'_1]; omega
  have hnd : ∀ x, x ∈ L → ¬ p ∣ x := by
    intro x hx hd
    have := Nat.le_of_dvd (by have := (hmem x).1 hx; omega) hd
    have := (hmem x).1 hx; omega
  have hperm : (L.map fun i => a * i % p).Perm L := by
    refine perm_of_sub _ _ ?_ ?_ (by simp)
    · rw [List.nodup_iff_pairwise_ne, List.pairwise_map]
      refine List.Pairwise.imp_of_mem ?_ (List.nodup_iff_pairwise_ne.1 hL)
      intro x y hx hy hne he
      have hxy : x % p = y % p := by
        refine cancel_mod hp ha ?_
        rw [Nat.mul_comm x, Nat.mul_comm y]; exact he
      rw [Nat.mod_eq_of_lt ((hmem x).1 hx).2, Nat.mod_eq_of_lt ((hmem y).1 hy).2] at hxy
      exact hne hxy
    · intro x hx
      obtain ⟨i, hi, rfl⟩ := List.mem_map.1 hx
      refine (hmem _).2 ⟨?_, Nat.mod_lt _ (by omega)⟩
      rcases Nat.eq_zero_or_pos (a * i % p) with h0 | h0
      · rcases prime_dvd_mul hp (Nat.dvd_of_mod_eq_zero h0) with h | h
        · exact absurd h ha
        · exact absurd h (hnd i hi)
      · exact h0
  have h := prodL_map_mod a p L
  rw [prodL_perm hperm] at h
  have hlen : L.length = p - 1 := by simp [L]
  rw [hlen] at h
  have hc := cancel_mod (x := 1) (y := a ^ (p - 1)) hp (prodL_not_dvd hp L hnd) (by simpa using h)
  rw [← hc]; exact Nat.mod_eq_of_lt (by omega)

theorem pow_mod_mul {a p m k : Nat} (h : a ^ m % p = 1 % p) : a ^ (m * k) % p = 1 % p := by
  rw [Nat.pow_mul, Nat.pow_mod, h, ← Nat.pow_mod, Nat.one_pow]

theorem pow_gcd {a p : Nat} : ∀ m n : Nat, a ^ m % p = 1 % p → a ^ n % p = 1 % p → a ^ (Nat.gcd m n) % p = 1 % p := by
  intro m n
  induction m, n using Nat.gcd.induction with
  | H0 n => intro _ h; simpa using h
  | H1 m n hm ih =>
    intro h1 h2
    rw [Nat.gcd_rec]
    refine ih ?_ h1
    have e : n = m * (n / m) + n % m := (Nat.div_add_mod n m).symm
    rw [e, Nat.pow_add, Nat.mul_mod, pow_mod_mul h1, ← Nat.mul_mod, Nat.one_mul] at h2
    exact h2

/-- A number above 1 has a prime divisor; a number that is no prime has one whose square is not above it. -/
theorem small_prime {N : Nat} (h2 : 2 ≤ N) (hn : ¬ IsPrime N) : ∃ r, IsPrime r ∧ r ∣ N ∧ r * r ≤ N := by
  have hex : ∃ m, 2 ≤ m ∧ m ∣ N ∧ m * m ≤ N := by
    have : ¬ ∀ m, m ∣ N → m = 1 ∨ m = N := fun h => hn ⟨h2, h⟩
    obtain ⟨m, hm⟩ := Classical.not_forall.1 this
    have hd : m ∣ N := Classical.not_not.1 fun h => hm fun h' => absurd h' h
    have h1 : m ≠ 1 ∧ m ≠ N := ⟨fun h => hm fun _ => Or.inl h, fun h => hm fun _ => Or.inr h⟩
    obtain ⟨k, hk⟩ := hd
    have hm0 : m ≠ 0 := by rintro rfl; simp at hk; omega
    have hk0 : k ≠ 0 := by rintro rfl; simp at hk; omega
    have hk1 : k ≠ 1 := by rintro rfl; simp at hk; exact h1.2 hk.symm
    rcases Nat.le_total m k with h | h
    · exact ⟨m, by omega, ⟨k, hk⟩, by rw [hk]; exact Nat.mul_le_mul_left m h⟩
    · exact ⟨k, by omega, ⟨m, by rw [hk, Nat.mul_comm]⟩, by rw [hk]; exact Nat.mul_le_mul_right k h⟩
  -- the least such number is prime
  have hmin : ∀ n, (∃ m, m ≤ n ∧ 2 ≤ m ∧ m ∣ N ∧ m * m ≤ N) → ∃ r, IsPrime r ∧ r ∣ N ∧ r * r ≤ N := by
    intro n
    induction n with
    | zero => rintro ⟨m, h0, h2, _⟩; omega
    | succ n ih =>
      rintro ⟨m, hmn, hm2, hmd, hmm⟩
      by_cases hp : IsPrime m
      · exact ⟨m, hp, hmd, hmm⟩
      · have : ¬ ∀ k, k ∣ m → k = 1 ∨ k = m := fun h => hp ⟨hm2, h⟩
        obtain ⟨k, hk⟩ := Classical.not_forall.1 this
        have hd : k ∣ m := Classical.not_not.1 fun h => hk fun h' => absurd h' h
        have h1 : k ≠ 1 ∧ k ≠ m := ⟨fun h => hk fun _ => Or.inl h, fun h => hk fun _ => Or.inr h⟩
        have hle : k ≤ m := Nat.le_of_dvd (by omega) hd
        have hk0 : k ≠ 0 := by rintro rfl; have := Nat.eq_zero_of_zero_dvd hd; omega
        exact ih ⟨k, by omega, by omega, Nat.dvd_trans hd hmd, Nat.le_trans (Nat.mul_le_mul hle hle) hmm⟩
  obtain ⟨m, h⟩ := hex
  exact hmin m ⟨m, Nat.le_refl _, h⟩

/-- One prime of Pocklington's: it divides r - 1 for every prime divisor r of N. -/
theorem pock_step {N q a r : Nat} (hq : IsPrime q) (hqN : q ∣ N - 1) (ha : a ^ (N - 1) % N = 1) (hg : Nat.gcd (a ^ ((N - 1) / q) + (N - 1)) N = 1)
    (hN : 2 ≤ N) (hr : IsPrime r) (hrN : r ∣ N) : q ∣ r - 1 := by
  have hr2 := hr.1
  have h1 : (1 : Nat) % r = 1 := Nat.mod_eq_of_lt (by omega)
  have har : a ^ (N - 1) % r = 1 % r := by
    have : a ^ (N - 1) % N % r = a ^ (N - 1) % r := Nat.mod_mod_of_dvd _ hrN
    rw [← this, ha]
  refine Classical.byContradiction fun hnd => ?_
  generalize hb : a ^ ((N - 1) / q) = b at hg
  have hbq : b ^ q % r = 1 % r := by
    rw [← hb, ← Nat.pow_mul, Nat.div_mul_cancel hqN]; exact har
  have hrb : ¬ r ∣ b := by
    intro hd
    have : b ^ q % r = 0 := by
      obtain ⟨c, rfl⟩ := hd
      have hq1 := hq.1
      rw [show q = (q - 1) + 1 by omega, Nat.pow_succ]
      rw [show (r * c) ^ (q - 1) * (r * c) = r * ((r * c) ^ (q - 1) * c) by grind]
      exact Nat.mul_mod_right _ _
    omega
  have hf : b ^ (r - 1) % r = 1 % r := by rw [fermat hr hrb, h1]
  have hgcd : Nat.gcd q (r - 1) = 1 := prime_coprime hq hnd
  have hb1 := pow_gcd q (r - 1) hbq hf
  rw [hgcd, Nat.pow_one, h1] at hb1
  have hd : r ∣ b + (N - 1) := by
    have hN0 : N % r = 0 := Nat.mod_eq_zero_of_dvd hrN
    refine Nat.dvd_of_mod_eq_zero ?_
    have e : b + (N - 1) = (b - 1) + N := by
      have : 1 ≤ b := by
        rcases Nat.eq_zero_or_pos b with h | h
        · subst h; simp at hb1
        · exact h
      omega
    have hb' : (b - 1) % r = 0 := by
      have hb0 : b = r * (b / r) + 1 := by rw [← hb1]; exact (Nat.div_add_mod b r).symm
      rw [hb0, Nat.add_sub_cancel]; exact Nat.mul_mod_right _ _
    rw [e, Nat.add_mod, hb', hN0]; simp
  have : r ∣ Nat.gcd (b + (N - 1)) N := Nat.dvd_gcd hd hrN
  rw [hg] at this
  have := Nat.le_of_dvd (by decide) this
  omega

/-- a ^ n modulo m, by squaring. -/
def modpow (a n m : Nat) : Nat → Nat
  | 0 => 1 % m
  | k + 1 => if n = 0 then 1 % m else
    let h := modpow a (n / 2) m k
    if n % 2 = 1 then h * h % m * a % m else h * h % m

theorem modpow_eq (a m : Nat) : ∀ (k n : Nat), n < 2 ^ k → modpow a n m k = a ^ n % m
  | 0, n, h => by
    have : n = 0 := by simpa using h
    subst this; simp [modpow]
  | k + 1, n, h => by
    unfold modpow
    split
    · subst_vars; simp
    · have ih := modpow_eq a m k (n / 2) (by rw [Nat.pow_succ] at h; omega)
      simp only [ih]
      have hsq : a ^ (n / 2) % m * (a ^ (n / 2) % m) % m = a ^ (n / 2 + n / 2) % m := by rw [← Nat.mul_mod, ← Nat.pow_add]
      split
      · rename_i h1
        rw [hsq, Nat.mod_mul_mod, ← Nat.pow_succ]; congr 2; omega
      · rw [hsq]; congr 2; omega

/-- Pocklington, over a list of primes with their witnesses: the product of the primes is above the root of N. -/
theorem pock (N : Nat) (qs : List (Nat × Nat)) (hN : 2 ≤ N)
    (hq : ∀ qa, qa ∈ qs → IsPrime qa.1 ∧ qa.1 ∣ N - 1 ∧ qa.2 ^ (N - 1) % N = 1 ∧ Nat.gcd (qa.2 ^ ((N - 1) / qa.1) + (N - 1)) N = 1)
    (hco : qs.Pairwise fun x y => Nat.Coprime x.1 y.1)
    (hF : N ≤ prodL (qs.map Prod.fst) * prodL (qs.map Prod.fst)) : IsPrime N := by
  refine Classical.byContradiction fun hn => ?_
  obtain ⟨r, hr, hrN, hrr⟩ := small_prime hN hn
  have hdvd : ∀ l : List (Nat × Nat), (∀ qa, qa ∈ l → qa ∈ qs) → l.Pairwise (fun x y => Nat.Coprime x.1 y.1) → prodL (l.map Prod.fst) ∣ r - 1 := by
    intro l
    induction l with
    | nil => intro _ _; simp [prodL]
    | cons x l ih =>
      intro hs hp
      rw [List.pairwise_cons] at hp
      have h1 := ih (fun y hy => hs y (by simp [hy])) hp.2
      obtain ⟨hx1, hx2, hx3, hx4⟩ := hq x (hs x (by simp))
      have h2 : x.1 ∣ r - 1 := pock_step hx1 hx2 hx3 hx4 hN hr hrN
      have hc : Nat.Coprime x.1 (prodL (l.map Prod.fst)) := by
        have : ∀ t : List (Nat × Nat), (∀ y, y ∈ t → Nat.Coprime x.1 y.1) → Nat.Coprime x.1 (prodL (t.map Prod.fst)) := by
          intro t
          induction t with
          | nil => intro _; simp [prodL]
          | cons y t iht => intro h; exact Nat.Coprime.mul_right (h y (by simp)) (iht fun z hz => h z (by simp [hz]))
        exact this l hp.1
      exact hc.mul_dvd_of_dvd_of_dvd h2 h1
  have hd := hdvd qs (fun _ h => h) hco
  have hr2 := hr.1
  have hle : prodL (qs.map Prod.fst) ≤ r - 1 := Nat.le_of_dvd (by omega) hd
  have : prodL (qs.map Prod.fst) * prodL (qs.map Prod.fst) ≤ (r - 1) * (r - 1) := Nat.mul_le_mul hle hle
  have h3 : (r - 1) * (r - 1) < r * r := Nat.mul_lt_mul_of_lt_of_lt (by omega) (by omega)
  omega

/-- By trial: n is prime when nothing from 2 to its root divides it. -/
def noDiv (n : Nat) : Nat → Bool
  | 0 => true
  | k + 1 => (k + 1 < 2 || n % (k + 1) != 0) && noDiv n k
theorem noDiv_spec (n : Nat) : ∀ k, noDiv n k = true → ∀ m, 2 ≤ m → m ≤ k → ¬ m ∣ n
  | 0, _, m, h2, hk => by omega
  | k + 1, h, m, h2, hk => by
    simp only [noDiv, Bool.and_eq_true, Bool.or_eq_true, decide_eq_true_eq, bne_iff_ne] at h
    rcases Nat.lt_or_ge m (k + 1) with hlt | hge
    · exact noDiv_spec n k h.2 m h2 (by omega)
    · have : m = k + 1 := by omega
      subst this
      rcases h.1 with h1 | h1
      · omega
      · intro hd; exact h1 (Nat.mod_eq_zero_of_dvd hd)
theorem prime_trial (n k : Nat) (h2 : 2 ≤ n) (hk : n < (k + 1) * (k + 1)) (h : noDiv n k = true) : IsPrime n := by
  refine Classical.byContradiction fun hn => ?_
  obtain ⟨r, hr, hrn, hrr⟩ := small_prime h2 hn
  have := hr.1
  refine noDiv_spec n k h r hr.1 ?_ hrn
  refine Classical.byContradiction fun hlt => ?_
  have : (k + 1) * (k + 1) ≤ r * r := Nat.mul_le_mul (by omega) (by omega)
  omega

/-- What a Pocklington step asks, by reckoning. -/
def pockOk (N q a k : Nat) : Bool :=
  (N - 1) % q == 0 && modpow a (N - 1) N k == 1 && Nat.gcd (modpow a ((N - 1) / q) N k + (N - 1)) N == 1 && decide (N - 1 < 2 ^ k)
theorem pockOk_spec {N q a k : Nat} (h : pockOk N q a k = true) :
    q ∣ N - 1 ∧ a ^ (N - 1) % N = 1 ∧ Nat.gcd (a ^ ((N - 1) / q) + (N - 1)) N = 1 := by
  simp only [pockOk, Bool.and_eq_true, beq_iff_eq, decide_eq_true_eq] at h
  obtain ⟨⟨⟨h1, h2⟩, h3⟩, h4⟩ := h
  have h5 : (N - 1) / q < 2 ^ k := Nat.lt_of_le_of_lt (Nat.div_le_self _ _) h4
  rw [modpow_eq a N k _ h4] at h2
  rw [modpow_eq a N k _ h5] at h3
  refine ⟨Nat.dvd_of_mod_eq_zero h1, h2, ?_⟩
  have key : ∀ x y : Nat, Nat.gcd (x % N + y) N = Nat.gcd (x + y) N := by
    intro x y
    rw [Nat.gcd_comm, Nat.gcd_comm _ N, Nat.gcd_rec N (x + y), Nat.gcd_rec N (x % N + y), Nat.mod_add_mod]
  rw [← key]; exact h3

theorem pock1 {N q a k : Nat} (hN : 2 ≤ N) (hq : IsPrime q) (h : pockOk N q a k = true) (hF : N ≤ q * q) : IsPrime N := by
  refine pock N [(q, a)] hN ?_ (by simp) (by simpa [prodL] using hF)
  intro qa hqa
  obtain rfl : qa = (q, a) := by simpa using hqa
  exact ⟨hq, pockOk_spec h⟩
theorem pock2 {N q a q' a' k : Nat} (hN : 2 ≤ N) (hq : IsPrime q) (hq' : IsPrime q') (hne : q' ≠ q) (h : pockOk N q a k = true) (h' : pockOk N q' a' k = true)
    (hF : N ≤ (q * q') * (q * q')) : IsPrime N := by
  refine pock N [(q, a), (q', a')] hN ?_ ?_ (by simpa [prodL] using hF)
  · intro qa hqa
    rcases (by simpa using hqa : qa = (q, a) ∨ qa = (q', a')) with rfl | rfl
    · exact ⟨hq, pockOk_spec h⟩
    · exact ⟨hq', pockOk_spec h'⟩
  · simp only [List.pairwise_cons, List.mem_singleton, forall_eq, List.not_mem_nil, false_implies, implies_true, List.Pairwise.nil, and_true]
    refine prime_coprime hq ?_
    intro hd
    have := hq.1
    rcases hq'.2 q hd with h1 | h1
    · omega
    · exact hne h1.symm
theorem prime_430751 : IsPrime 430751 := prime_trial 430751 656 (by decide) (by decide) (by decide +kernel)
theorem prime_4153 : IsPrime 4153 := prime_trial 4153 64 (by decide) (by decide) (by decide +kernel)
theorem prime_75707 : IsPrime 75707 := prime_trial 75707 275 (by decide) (by decide) (by decide +kernel)
theorem prime_8574133 : IsPrime 8574133 := prime_trial 8574133 2928 (by decide) (by decide) (by decide +kernel)
theorem prime_127 : IsPrime 127 := prime_trial 127 11 (by decide) (by decide) (by decide +kernel)
theorem prime_31757755568855353 : IsPrime 31757755568855353 := pock2 (q := 430751) (a := 2) (q' := 4153) (a' := 2) (k := 55) (by decide) prime_430751 prime_4153 (by decide) (by decide +kernel) (by decide +kernel) (by decide)
theorem prime_1919519569386763 : IsPrime 1919519569386763 := pock2 (q := 8574133) (a := 2) (q' := 127) (a' := 2) (k := 51) (by decide) prime_8574133 prime_127 (by decide) (by decide +kernel) (by decide +kernel) (by decide)
theorem prime_75445702479781427272750846543864801 : IsPrime 75445702479781427272750846543864801 := pock2 (q := 1919519569386763) (a := 2) (q' := 75707) (a' := 2) (k := 116) (by decide) prime_1919519569386763 prime_75707 (by decide) (by decide +kernel) (by decide +kernel) (by decide)
theorem prime_74058212732561358302231226437062788676166966415465897661863160754340907 : IsPrime 74058212732561358302231226437062788676166966415465897661863160754340907 := pock2 (q := 75445702479781427272750846543864801) (a := 2) (q' := 31757755568855353) (a' := 2) (k := 236) (by decide) prime_75445702479781427272750846543864801 prime_31757755568855353 (by decide) (by decide +kernel) (by decide +kernel) (by decide)
theorem prime25519 : IsPrime 57896044618658097711785492504343953926634992332820282019728792003956564819949 := pock1 (q := 74058212732561358302231226437062788676166966415465897661863160754340907) (a := 2) (k := 255) (by decide) prime_74058212732561358302231226437062788676166966415465897661863160754340907 (by decide +kernel) (by decide)
end MSE

/-
  Edwards curves over the prime field, and the ladder: two ladders by even numbers commute.
-/
namespace MSE
abbrev Q : Nat := 57896044618658097711785492504343953926634992332820282019728792003956564819949
abbrev F := Fin Q
theorem eq2 {l r c1 c2 : F} (k : l - r = c1 * 0 + c2 * 0) : l = r := by grind -lia
theorem eq3 {l r c1 c2 c3 : F} (k : l - r = c1 * 0 + c2 * 0 + c3 * 0) : l = r := by grind -lia

/-! ### The field of 2^255 - 19, as Fin Q. -/
theorem q_prime : IsPrime Q := prime25519
theorem mul_zero_or {a b : F} (h : a * b = 0) : a = 0 ∨ b = 0 := by
  have hv : (a.val * b.val) % Q = 0 := by have := congrArg Fin.val h; rwa [Fin.val_mul] at this
  have key : ∀ {c : F}, Q ∣ c.val → c = 0 := by
    intro c hc
    apply Fin.ext
    have : c.val = 0 := Nat.eq_zero_of_dvd_of_lt hc c.isLt
    rw [this]; rfl
  rcases prime_dvd_mul q_prime (Nat.dvd_of_mod_eq_zero hv) with h1 | h1
  · exact Or.inl (key h1)
  · exact Or.inr (key h1)
theorem mul_ne {a b : F} (ha : a ≠ 0) (hb : b ≠ 0) : a * b ≠ 0 := fun h => (mul_zero_or h).elim ha hb
theorem cancelF {a x y : F} (ha : a ≠ 0) (h : x * a = y * a) : x = y := by
  have : (x - y) * a = 0 := by grind -lia
  rcases mul_zero_or this with h1 | h1
  · grind -lia
  · exact absurd h1 ha
theorem sq_zero {a : F} (h : a * a = 0) : a = 0 := (mul_zero_or h).elim id id

def fp (a : F) : Nat → F
  | 0 => 1
  | n + 1 => fp a n * a
theorem fp_zero (a : F) : fp a 0 = 1 := rfl
theorem fp_succ (a : F) (n : Nat) : fp a (n + 1) = fp a n * a := rfl
theorem fp_val (a : F) : ∀ n, (fp a n).val = a.val ^ n % Q
  | 0 => rfl
  | n + 1 => by rw [fp_succ, Fin.val_mul, fp_val a n, Nat.pow_succ, Nat.mod_mul_mod]
theorem fp_add (a : F) (m : Nat) : ∀ n, fp a (m + n) = fp a m * fp a n
  | 0 => by rw [fp_zero, Nat.add_zero]; grind -lia
  | n + 1 => by rw [← Nat.add_assoc, fp_succ, fp_succ, fp_add a m n]; grind -lia
theorem fp_mul (a : F) (m : Nat) : ∀ n, fp a (m * n) = fp (fp a m) n
  | 0 => by simp [fp_zero]
  | n + 1 => by rw [Nat.mul_succ, fp_add, fp_mul a m n, fp_succ]
theorem fp_mulBase (a b : F) : ∀ n, fp (a * b) n = fp a n * fp b n
  | 0 => by simp [fp_zero]
  | n + 1 => by rw [fp_succ, fp_succ, fp_succ, fp_mulBase a b n]; grind -lia
theorem fp_one (n : Nat) : fp 1 n = 1 := by
  induction n with
  | zero => rfl
  | succ n ih => rw [fp_succ, ih]; grind -lia
theorem fp_two (a : F) : fp a 2 = a * a := by rw [fp_succ, fp_succ, fp_zero]; grind -lia
theorem fp_zeroBase (n : Nat) (h : 0 < n) : fp 0 n = 0 := by
  cases n with
  | zero => omega
  | succ n => rw [fp_succ]; grind -lia
theorem fp_fermat {a : F} (ha : a ≠ 0) : fp a (Q - 1) = 1 := by
  apply Fin.ext
  rw [fp_val]
  refine fermat q_prime ?_
  intro hd
  refine ha (Fin.ext ?_)
  rw [Nat.eq_zero_of_dvd_of_lt hd a.isLt]; rfl
attribute [irreducible] fp

/-- The inverse; of 0 it is 0. -/
def inv (a : F) : F := fp a (Q - 2)
theorem mul_inv {a : F} (ha : a ≠ 0) : a * inv a = 1 := by
  have h := fp_fermat ha
  have e : Q - 1 = (Q - 2) + 1 := by decide
  rw [e, fp_succ] at h
  unfold inv
  generalize fp a (Q - 2) = b at *
  grind -lia
theorem inv_zero : inv 0 = 0 := fp_zeroBase _ (by decide)
attribute [irreducible] inv
theorem inv_eq {a b : F} (h : a * b = 1) : inv a = b := by
  have ha : a ≠ 0 := by
    intro e; rw [e] at h
    have : (0 : F) = 1 := by grind -lia
    exact absurd this (by decide)
  have h2 := mul_inv ha
  generalize inv a = c at *
  refine cancelF ha ?_
  grind -lia
theorem frac_eq {u v u' v' : F} (hv : v ≠ 0) (hv' : v' ≠ 0) (h : u * v' = u' * v) : u * inv v = u' * inv v' := by
  have h1 := mul_inv hv
  have h2 := mul_inv hv'
  refine cancelF (mul_ne hv hv') ?_
  generalize inv v = i at *
  generalize inv v' = i' at *
  have e1 : u * i * (v * v') = u * v' * (v * i) := by grind -lia
  have e2 : u' * i' * (v * v') = u' * v * (v' * i') := by grind -lia
  rw [e1, e2, h1, h2, h]
theorem frac_ne {u v : F} (hu : u ≠ 0) (hv : v ≠ 0) : u * inv v ≠ 0 := by
  intro h
  have h1 := mul_inv hv
  refine hu ?_
  generalize inv v = i at *
  have : u * i * v = u := by grind -lia
  rw [h] at this; grind -lia

/-! ### Squares: 2^255 - 19 is 5 modulo 8. -/
def Sq (a : F) : Prop := ∃ s : F, s * s = a
theorem half_sq {a : F} (ha : a ≠ 0) : fp a ((Q - 1) / 2) = 1 ∨ fp a ((Q - 1) / 2) = -1 := by
  have h : fp a ((Q - 1) / 2) * fp a ((Q - 1) / 2) = 1 := by
    rw [← fp_add]; exact fp_fermat ha
  generalize fp a ((Q - 1) / 2) = b at *
  have : (b - 1) * (b + 1) = 0 := by grind -lia
  rcases mul_zero_or this with h1 | h1
  · left; grind -lia
  · right; grind -lia
theorem fp_by (a : F) (n k : Nat) (h : n < 2 ^ k) (r : F) (hr : modpow a.val n Q k = r.val) : fp a n = r := by
  apply Fin.ext; rw [fp_val, ← modpow_eq a.val Q k n h, hr]
theorem root_m1 : fp 2 ((Q - 1) / 4) * fp 2 ((Q - 1) / 4) = -1 := by
  rw [← fp_add]
  exact fp_by 2 _ 256 (by decide +kernel) (-1) (by decide +kernel)
theorem sq_of_half {a : F} (h : fp a ((Q - 1) / 2) = 1) : Sq a := by
  have h4 : fp a ((Q + 3) / 8) * fp a ((Q + 3) / 8) * (fp a ((Q + 3) / 8) * fp a ((Q + 3) / 8)) = a * a := by
    rw [← fp_add, ← fp_add]
    have e : (Q + 3) / 8 + (Q + 3) / 8 + ((Q + 3) / 8 + (Q + 3) / 8) = (Q - 1) / 2 + 2 := by decide
    rw [e, fp_add, h, fp_two]; grind -lia
  have hr := root_m1
  generalize fp a ((Q + 3) / 8) = y at *
  generalize fp 2 ((Q - 1) / 4) = i at *
  have : (y * y - a) * (y * y + a) = 0 := by
    rw [show (y * y - a) * (y * y + a) = y * y * (y * y) - a * a by grind -lia, h4]; grind -lia
  rcases mul_zero_or this with h1 | h1
  · exact ⟨y, by grind -lia⟩
  · exact ⟨i * y, by grind -lia⟩
theorem half_of_sq {a s : F} (hs : s * s = a) (ha : a ≠ 0) : fp a ((Q - 1) / 2) = 1 := by
  have hs0 : s ≠ 0 := by intro e; rw [e] at hs; exact ha (by rw [← hs]; grind -lia)
  rw [← hs, ← fp_two, ← fp_mul]
  exact fp_fermat hs0
theorem nonsq_mul {a b : F} (ha : ¬ Sq a) (hb : ¬ Sq b) : Sq (a * b) := by
  have ha0 : a ≠ 0 := fun e => ha ⟨0, by rw [e]; grind -lia⟩
  have hb0 : b ≠ 0 := fun e => hb ⟨0, by rw [e]; grind -lia⟩
  refine sq_of_half ?_
  rw [fp_mulBase]
  rcases half_sq ha0 with h1 | h1
  · exact absurd (sq_of_half h1) ha
  · rcases half_sq hb0 with h2 | h2
    · exact absurd (sq_of_half h2) hb
    · rw [h1, h2]; grind -lia
theorem nonsq_of {a : F} (ha : a ≠ 0) (h : fp a ((Q - 1) / 2) = -1) : ¬ Sq a := by
  rintro ⟨s, hs⟩
  rw [half_of_sq hs ha] at h
  exact absurd h (by decide)
theorem closure_id (d x1 y1 x2 y2 : F) : ((x1*y2 + y1*x2)*(1 - d*(x1*x2*y1*y2)))*((x1*y2 + y1*x2)*(1 - d*(x1*x2*y1*y2))) + ((y1*y2 - x1*x2)*(1 + d*(x1*x2*y1*y2)))*((y1*y2 - x1*x2)*(1 + d*(x1*x2*y1*y2))) - (((1 + d*(x1*x2*y1*y2))*(1 - d*(x1*x2*y1*y2)))*((1 + d*(x1*x2*y1*y2))*(1 - d*(x1*x2*y1*y2))) + d*((x1*y2 + y1*x2)*(y1*y2 - x1*x2))*((x1*y2 + y1*x2)*(y1*y2 - x1*x2))) = (d*d*d*x1*x1*y1*y1*x2*x2*x2*x2*y2*y2*y2*y2 + d*d*x1*x1*x2*x2*x2*x2*y2*y2*y2*y2 + d*d*y1*y1*x2*x2*x2*x2*y2*y2*y2*y2 - d*d*x2*x2*x2*x2*y2*y2*y2*y2 - d*x1*x1*x2*x2*x2*x2*y2*y2 - d*x1*x1*x2*x2*y2*y2*y2*y2 - d*y1*y1*x2*x2*x2*x2*y2*y2 - d*y1*y1*x2*x2*y2*y2*y2*y2 + 2*d*x2*x2*x2*x2*y2*y2*y2*y2 - 2*d*x2*x2*y2*y2 - 2*x2*x2*x2*x2*y2*y2 + x2*x2*x2*x2 - 2*x2*x2*y2*y2*y2*y2 + 4*x2*x2*y2*y2 + y2*y2*y2*y2) * (x1*x1 + y1*y1 - 1 - d*x1*x1*y1*y1) + (d*x1*x1*x1*x1*x2*x2*y2*y2 - 2*d*x1*x1*x2*x2*y2*y2 + d*y1*y1*y1*y1*x2*x2*y2*y2 - 2*d*y1*y1*x2*x2*y2*y2 + d*x2*x2*y2*y2 + 2*x1*x1*x2*x2*y2*y2 - x1*x1*x2*x2 - x1*x1*y2*y2 + 2*y1*y1*x2*x2*y2*y2 - y1*y1*x2*x2 - y1*y1*y2*y2 - 2*x2*x2*y2*y2 + x2*x2 + y2*y2 + 1) * (x2*x2 + y2*y2 - 1 - d*x2*x2*y2*y2) := by grind -lia
theorem closure (d x1 y1 x2 y2 : F) (h1 : x1*x1 + y1*y1 = 1 + d*x1*x1*y1*y1) (h2 : x2*x2 + y2*y2 = 1 + d*x2*x2*y2*y2) :
    ((x1*y2 + y1*x2)*(1 - d*(x1*x2*y1*y2)))*((x1*y2 + y1*x2)*(1 - d*(x1*x2*y1*y2))) + ((y1*y2 - x1*x2)*(1 + d*(x1*x2*y1*y2)))*((y1*y2 - x1*x2)*(1 + d*(x1*x2*y1*y2))) = ((1 + d*(x1*x2*y1*y2))*(1 - d*(x1*x2*y1*y2)))*((1 + d*(x1*x2*y1*y2))*(1 - d*(x1*x2*y1*y2))) + d*((x1*y2 + y1*x2)*(y1*y2 - x1*x2))*((x1*y2 + y1*x2)*(y1*y2 - x1*x2)) := by
  have g1 : x1*x1 + y1*y1 - 1 - d*x1*x1*y1*y1 = 0 := by rw [h1]; grind -lia
  have g2 : x2*x2 + y2*y2 - 1 - d*x2*x2*y2*y2 = 0 := by rw [h2]; grind -lia
  have k := closure_id d x1 y1 x2 y2
  rw [g1, g2] at k
  exact eq2 k
theorem assocx_id (d x1 y1 x2 y2 x3 y3 : F) : ((x1*y2 + y1*x2)*(1 - d*(x1*x2*y1*y2))*y3 + (y1*y2 - x1*x2)*(1 + d*(x1*x2*y1*y2))*x3)*((1 + d*(x2*x3*y2*y3))*(1 - d*(x2*x3*y2*y3)) + d*x1*y1*(x2*y3 + y2*x3)*(y2*y3 - x2*x3)) - ((x1*(y2*y3 - x2*x3)*(1 + d*(x2*x3*y2*y3)) + y1*(x2*y3 + y2*x3)*(1 - d*(x2*x3*y2*y3)))*((1 + d*(x1*x2*y1*y2))*(1 - d*(x1*x2*y1*y2)) + d*(x1*y2 + y1*x2)*(y1*y2 - x1*x2)*x3*y3)) = (d*d*x1*x2*x2*x2*x2*y2*y2*y2*x3*x3*y3 - d*d*x1*x2*x2*x2*y2*y2*y2*y2*x3*y3*y3 + d*d*y1*x2*x2*x2*x2*y2*y2*y2*x3*y3*y3 + d*d*y1*x2*x2*x2*y2*y2*y2*y2*x3*x3*y3 - d*x1*x2*x2*x2*x2*y2*x3*x3*y3 - d*x1*x2*x2*x2*y2*y2*x3*x3*x3 + d*x1*x2*x2*x2*y2*y2*x3 + d*x1*x2*x2*y2*y2*y2*y3*y3*y3 - d*x1*x2*x2*y2*y2*y2*y3 + d*x1*x2*y2*y2*y2*y2*x3*y3*y3 - d*y1*x2*x2*x2*x2*y2*x3*y3*y3 + d*y1*x2*x2*x2*y2*y2*y3*y3*y3 - d*y1*x2*x2*x2*y2*y2*y3 + d*y1*x2*x2*y2*y2*y2*x3*x3*x3 - d*y1*x2*x2*y2*y2*y2*x3 - d*y1*x2*y2*y2*y2*y2*x3*x3*y3) * (x1*x1 + y1*y1 - 1 - d*x1*x1*y1*y1) + (d*x1*x1*x1*x2*x2*y2*x3*x3*y3 - d*x1*x1*x1*x2*y2*y2*x3*y3*y3 - d*x1*x1*y1*x2*x2*y2*x3*x3*x3 + d*x1*x1*y1*x2*x2*y2*x3 - d*x1*x1*y1*x2*y2*y2*y3*y3*y3 + d*x1*x1*y1*x2*y2*y2*y3 - d*x1*y1*y1*x2*x2*y2*y3*y3*y3 + d*x1*y1*y1*x2*x2*y2*y3 + d*x1*y1*y1*x2*y2*y2*x3*x3*x3 - d*x1*y1*y1*x2*y2*y2*x3 - d*x1*x2*x2*y2*x3*x3*y3 + d*x1*x2*y2*y2*x3*y3*y3 + d*y1*y1*y1*x2*x2*y2*x3*y3*y3 + d*y1*y1*y1*x2*y2*y2*x3*x3*y3 - d*y1*x2*x2*y2*x3*y3*y3 - d*y1*x2*y2*y2*x3*x3*y3) * (x2*x2 + y2*y2 - 1 - d*x2*x2*y2*y2) + (- d*d*x1*x1*y1*x2*x2*x2*x2*y2*y2*y2*x3 - d*d*x1*x1*y1*x2*x2*x2*y2*y2*y2*y2*y3 - d*d*x1*y1*y1*x2*x2*x2*x2*y2*y2*y2*y3 + d*d*x1*y1*y1*x2*x2*x2*y2*y2*y2*y2*x3 + d*x1*x1*x1*x2*x2*x2*y2*y2*x3 - d*x1*x1*x1*x2*x2*y2*y2*y2*y3 + d*x1*x1*y1*x2*x2*x2*x2*y2*x3 + d*x1*x1*y1*x2*y2*y2*y2*y2*y3 + d*x1*y1*y1*x2*x2*x2*x2*y2*y3 - d*x1*y1*y1*x2*y2*y2*y2*y2*x3 - d*x1*x2*x2*x2*y2*y2*x3 + d*x1*x2*x2*y2*y2*y2*y3 - d*y1*y1*y1*x2*x2*x2*y2*y2*y3 - d*y1*y1*y1*x2*x2*y2*y2*y2*x3 + d*y1*x2*x2*x2*y2*y2*y3 + d*y1*x2*x2*y2*y2*y2*x3) * (x3*x3 + y3*y3 - 1 - d*x3*x3*y3*y3) := by grind -lia
theorem assocx (d x1 y1 x2 y2 x3 y3 : F) (h1 : x1*x1 + y1*y1 = 1 + d*x1*x1*y1*y1) (h2 : x2*x2 + y2*y2 = 1 + d*x2*x2*y2*y2) (h3 : x3*x3 + y3*y3 = 1 + d*x3*x3*y3*y3) :
    ((x1*y2 + y1*x2)*(1 - d*(x1*x2*y1*y2))*y3 + (y1*y2 - x1*x2)*(1 + d*(x1*x2*y1*y2))*x3)*((1 + d*(x2*x3*y2*y3))*(1 - d*(x2*x3*y2*y3)) + d*x1*y1*(x2*y3 + y2*x3)*(y2*y3 - x2*x3)) = (x1*(y2*y3 - x2*x3)*(1 + d*(x2*x3*y2*y3)) + y1*(x2*y3 + y2*x3)*(1 - d*(x2*x3*y2*y3)))*((1 + d*(x1*x2*y1*y2))*(1 - d*(x1*x2*y1*y2)) + d*(x1*y2 + y1*x2)*(y1*y2 - x1*x2)*x3*y3) := by
  have g1 : x1*x1 + y1*y1 - 1 - d*x1*x1*y1*y1 = 0 := by rw [h1]; grind -lia
  have g2 : x2*x2 + y2*y2 - 1 - d*x2*x2*y2*y2 = 0 := by rw [h2]; grind -lia
  have g3 : x3*x3 + y3*y3 - 1 - d*x3*x3*y3*y3 = 0 := by rw [h3]; grind -lia
  have k := assocx_id d x1 y1 x2 y2 x3 y3
  rw [g1, g2, g3] at k
  exact eq3 k
theorem assocy_id (d x1 y1 x2 y2 x3 y3 : F) : ((y1*y2 - x1*x2)*(1 + d*(x1*x2*y1*y2))*y3 - (x1*y2 + y1*x2)*(1 - d*(x1*x2*y1*y2))*x3)*((1 + d*(x2*x3*y2*y3))*(1 - d*(x2*x3*y2*y3)) - d*x1*y1*(x2*y3 + y2*x3)*(y2*y3 - x2*x3)) - ((y1*(y2*y3 - x2*x3)*(1 + d*(x2*x3*y2*y3)) - x1*(x2*y3 + y2*x3)*(1 - d*(x2*x3*y2*y3)))*((1 + d*(x1*x2*y1*y2))*(1 - d*(x1*x2*y1*y2)) - d*(x1*y2 + y1*x2)*(y1*y2 - x1*x2)*x3*y3)) = (- d*d*x1*x2*x2*x2*x2*y2*y2*y2*x3*y3*y3 - d*d*x1*x2*x2*x2*y2*y2*y2*y2*x3*x3*y3 + d*d*y1*x2*x2*x2*x2*y2*y2*y2*x3*x3*y3 - d*d*y1*x2*x2*x2*y2*y2*y2*y2*x3*y3*y3 + d*x1*x2*x2*x2*x2*y2*x3*y3*y3 - d*x1*x2*x2*x2*y2*y2*y3*y3*y3 + d*x1*x2*x2*x2*y2*y2*y3 - d*x1*x2*x2*y2*y2*y2*x3*x3*x3 + d*x1*x2*x2*y2*y2*y2*x3 + d*x1*x2*y2*y2*y2*y2*x3*x3*y3 - d*y1*x2*x2*x2*x2*y2*x3*x3*y3 - d*y1*x2*x2*x2*y2*y2*x3*x3*x3 + d*y1*x2*x2*x2*y2*y2*x3 + d*y1*x2*x2*y2*y2*y2*y3*y3*y3 - d*y1*x2*x2*y2*y2*y2*y3 + d*y1*x2*y2*y2*y2*y2*x3*y3*y3) * (x1*x1 + y1*y1 - 1 - d*x1*x1*y1*y1) + (- d*x1*x1*x1*x2*x2*y2*x3*y3*y3 - d*x1*x1*x1*x2*y2*y2*x3*x3*y3 - d*x1*x1*y1*x2*x2*y2*y3*y3*y3 + d*x1*x1*y1*x2*x2*y2*y3 + d*x1*x1*y1*x2*y2*y2*x3*x3*x3 - d*x1*x1*y1*x2*y2*y2*x3 + d*x1*y1*y1*x2*x2*y2*x3*x3*x3 - d*x1*y1*y1*x2*x2*y2*x3 + d*x1*y1*y1*x2*y2*y2*y3*y3*y3 - d*x1*y1*y1*x2*y2*y2*y3 + d*x1*x2*x2*y2*x3*y3*y3 + d*x1*x2*y2*y2*x3*x3*y3 + d*y1*y1*y1*x2*x2*y2*x3*x3*y3 - d*y1*y1*y1*x2*y2*y2*x3*y3*y3 - d*y1*x2*x2*y2*x3*x3*y3 + d*y1*x2*y2*y2*x3*y3*y3) * (x2*x2 + y2*y2 - 1 - d*x2*x2*y2*y2) + (- d*d*x1*x1*y1*x2*x2*x2*x2*y2*y2*y2*y3 + d*d*x1*x1*y1*x2*x2*x2*y2*y2*y2*y2*x3 + d*d*x1*y1*y1*x2*x2*x2*x2*y2*y2*y2*x3 + d*d*x1*y1*y1*x2*x2*x2*y2*y2*y2*y2*y3 + d*x1*x1*x1*x2*x2*x2*y2*y2*y3 + d*x1*x1*x1*x2*x2*y2*y2*y2*x3 + d*x1*x1*y1*x2*x2*x2*x2*y2*y3 - d*x1*x1*y1*x2*y2*y2*y2*y2*x3 - d*x1*y1*y1*x2*x2*x2*x2*y2*x3 - d*x1*y1*y1*x2*y2*y2*y2*y2*y3 - d*x1*x2*x2*x2*y2*y2*y3 - d*x1*x2*x2*y2*y2*y2*x3 + d*y1*y1*y1*x2*x2*x2*y2*y2*x3 - d*y1*y1*y1*x2*x2*y2*y2*y2*y3 - d*y1*x2*x2*x2*y2*y2*x3 + d*y1*x2*x2*y2*y2*y2*y3) * (x3*x3 + y3*y3 - 1 - d*x3*x3*y3*y3) := by grind -lia
theorem assocy (d x1 y1 x2 y2 x3 y3 : F) (h1 : x1*x1 + y1*y1 = 1 + d*x1*x1*y1*y1) (h2 : x2*x2 + y2*y2 = 1 + d*x2*x2*y2*y2) (h3 : x3*x3 + y3*y3 = 1 + d*x3*x3*y3*y3) :
    ((y1*y2 - x1*x2)*(1 + d*(x1*x2*y1*y2))*y3 - (x1*y2 + y1*x2)*(1 - d*(x1*x2*y1*y2))*x3)*((1 + d*(x2*x3*y2*y3))*(1 - d*(x2*x3*y2*y3)) - d*x1*y1*(x2*y3 + y2*x3)*(y2*y3 - x2*x3)) = (y1*(y2*y3 - x2*x3)*(1 + d*(x2*x3*y2*y3)) - x1*(x2*y3 + y2*x3)*(1 - d*(x2*x3*y2*y3)))*((1 + d*(x1*x2*y1*y2))*(1 - d*(x1*x2*y1*y2)) - d*(x1*y2 + y1*x2)*(y1*y2 - x1*x2)*x3*y3) := by
  have g1 : x1*x1 + y1*y1 - 1 - d*x1*x1*y1*y1 = 0 := by rw [h1]; grind -lia
  have g2 : x2*x2 + y2*y2 - 1 - d*x2*x2*y2*y2 = 0 := by rw [h2]; grind -lia
  have g3 : x3*x3 + y3*y3 - 1 - d*x3*x3*y3*y3 = 0 := by rw [h3]; grind -lia
  have k := assocy_id d x1 y1 x2 y2 x3 y3
  rw [g1, g2, g3] at k
  exact eq3 k
theorem daddid_id (d x1 y1 x2 y2 : F) : ((1 - d*(x1*x2*y1*y2)) + (y1*y2 - x1*x2))*((1 + d*(x1*x2*y1*y2)) + y1*y2 + x1*x2)*((y1 - y2)*(y1 - y2)) - (((1 - d*(x1*x2*y1*y2)) - (y1*y2 - x1*x2))*((1 + d*(x1*x2*y1*y2)) - y1*y2 - x1*x2)*((y1 + y2)*(y1 + y2))) = (- 4*d*y1*x2*x2*y2*y2*y2 + 4*y1*x2*x2*y2) * (x1*x1 + y1*y1 - 1 - d*x1*x1*y1*y1) + (- 4*y1*y1*y1*y2 + 4*y1*y2) * (x2*x2 + y2*y2 - 1 - d*x2*x2*y2*y2) := by grind -lia
theorem daddid (d x1 y1 x2 y2 : F) (h1 : x1*x1 + y1*y1 = 1 + d*x1*x1*y1*y1) (h2 : x2*x2 + y2*y2 = 1 + d*x2*x2*y2*y2) :
    ((1 - d*(x1*x2*y1*y2)) + (y1*y2 - x1*x2))*((1 + d*(x1*x2*y1*y2)) + y1*y2 + x1*x2)*((y1 - y2)*(y1 - y2)) = ((1 - d*(x1*x2*y1*y2)) - (y1*y2 - x1*x2))*((1 + d*(x1*x2*y1*y2)) - y1*y2 - x1*x2)*((y1 + y2)*(y1 + y2)) := by
  have g1 : x1*x1 + y1*y1 - 1 - d*x1*x1*y1*y1 = 0 := by rw [h1]; grind -lia
  have g2 : x2*x2 + y2*y2 - 1 - d*x2*x2*y2*y2 = 0 := by rw [h2]; grind -lia
  have k := daddid_id d x1 y1 x2 y2
  rw [g1, g2] at k
  exact eq2 k

/-! ### The curve x^2 + y^2 = 1 + d x^2 y^2, d no square: a complete law of addition. -/
def On (d : F) (p : F × F) : Prop := p.1 * p.1 + p.2 * p.2 = 1 + d * p.1 * p.1 * p.2 * p.2
def padd (d : F) (p q : F × F) : F × F :=
  ((p.1 * q.2 + p.2 * q.1) * inv (1 + d * (p.1 * q.1 * p.2 * q.2)), (p.2 * q.2 - p.1 * q.1) * inv (1 - d * (p.1 * q.1 * p.2 * q.2)))

theorem two_ne : (2 : F) ≠ 0 := by decide
theorem one_ne : (1 : F) ≠ 0 := by decide

/-- The denominators are never 0. -/
theorem complete_aux {d x1 y1 x2 y2 e : F} (hd : ¬ Sq d) (h1 : On d (x1, y1)) (h2 : On d (x2, y2)) (he : e * e = 1) : d * (x1 * x2 * y1 * y2) ≠ e := by
  intro hm
  unfold On at h1 h2
  simp only at h1 h2
  have he0 : e ≠ 0 := by intro h; rw [h] at he; exact one_ne (by grind -lia)
  have hx : x1 * y1 ≠ 0 := by
    intro h
    refine he0 ?_
    rw [← hm, show d * (x1 * x2 * y1 * y2) = x1 * y1 * (d * x2 * y2) by grind -lia, h]; grind -lia
  have sq : ∀ t : F, (t = x2 + y2 ∨ t = x2 - y2) → t ≠ 0 → Sq d := by
    intro t ht ht0
    have hxt : x1 * y1 * t ≠ 0 := mul_ne hx ht0
    have key : ∃ s, s * s = d * (x1 * y1 * t) * (x1 * y1 * t) := by
      have e1 : d * x1 * x1 * y1 * y1 * (x2 * x2 + y2 * y2) = x1 * x1 + y1 * y1 := by
        rw [h2, show d * x1 * x1 * y1 * y1 * (1 + d * x2 * x2 * y2 * y2) = d * x1 * x1 * y1 * y1 + d * (x1 * x2 * y1 * y2) * (d * (x1 * x2 * y1 * y2)) by grind -lia, hm, he, h1]
        grind -lia
      rcases ht with rfl | rfl
      · refine ⟨x1 + e * y1, ?_⟩
        rw [← hm] at he ⊢
        grind -lia
      · refine ⟨x1 - e * y1, ?_⟩
        rw [← hm] at he ⊢
        grind -lia
    obtain ⟨s, hs⟩ := key
    have hi := mul_inv hxt
    generalize inv (x1 * y1 * t) = i at hi
    generalize x1 * y1 * t = z at *
    refine ⟨s * i, ?_⟩
    rw [show s * i * (s * i) = s * s * (i * i) by grind -lia, hs]
    grind -lia
  have ha : x2 + y2 = 0 := Classical.byContradiction fun h => hd (sq _ (Or.inl rfl) h)
  have hb : x2 - y2 = 0 := Classical.byContradiction fun h => hd (sq _ (Or.inr rfl) h)
  have h2x : 2 * x2 = 0 := by grind -lia
  have hx2 : x2 = 0 := (mul_zero_or h2x).elim (fun h => absurd h two_ne) id
  refine he0 ?_
  rw [← hm, hx2]; grind -lia
theorem complete_add {d : F} {p q : F × F} (hd : ¬ Sq d) (hp : On d p) (hq : On d q) : 1 + d * (p.1 * q.1 * p.2 * q.2) ≠ 0 := by
  intro h
  refine complete_aux hd (x1 := p.1) (y1 := p.2) (x2 := q.1) (y2 := q.2) (e := -1) hp hq (by grind -lia) ?_
  generalize d * (p.1 * q.1 * p.2 * q.2) = m at *
  grind -lia
theorem complete_sub {d : F} {p q : F × F} (hd : ¬ Sq d) (hp : On d p) (hq : On d q) : 1 - d * (p.1 * q.1 * p.2 * q.2) ≠ 0 := by
  intro h
  refine complete_aux hd (x1 := p.1) (y1 := p.2) (x2 := q.1) (y2 := q.2) (e := 1) hp hq (by grind -lia) ?_
  generalize d * (p.1 * q.1 * p.2 * q.2) = m at *
  grind -lia

theorem padd_on {d : F} {p q : F × F} (hd : ¬ Sq d) (hp : On d p) (hq : On d q) : On d (padd d p q) := by
  have hB := complete_add hd hp hq
  have hD := complete_sub hd hp hq
  obtain ⟨x1, y1⟩ := p
  obtain ⟨x2, y2⟩ := q
  have hc := closure d x1 y1 x2 y2 hp hq
  simp only at hB hD
  have iB := mul_inv hB
  have iD := mul_inv hD
  unfold On padd
  simp only
  generalize inv (1 + d * (x1 * x2 * y1 * y2)) = b at *
  generalize inv (1 - d * (x1 * x2 * y1 * y2)) = c at *
  generalize (1 + d * (x1 * x2 * y1 * y2)) = B at *
  generalize (1 - d * (x1 * x2 * y1 * y2)) = D at *
  generalize x1 * y2 + y1 * x2 = A at *
  generalize y1 * y2 - x1 * x2 = C at *
  have hBD : (B * D) * (B * D) ≠ 0 := mul_ne (mul_ne hB hD) (mul_ne hB hD)
  refine cancelF hBD ?_
  have e1 : (A * b * (A * b) + C * c * (C * c)) * (B * D * (B * D)) = A * D * (A * D) * ((B * b) * (B * b)) + C * B * (C * B) * ((D * c) * (D * c)) := by grind -lia
  have e2 : (1 + d * (A * b) * (A * b) * (C * c) * (C * c)) * (B * D * (B * D)) = B * D * (B * D) + d * (A * C) * (A * C) * ((B * b) * (B * b)) * ((D * c) * (D * c)) := by grind -lia
  rw [e1, e2, iB, iD]
  grind -lia

theorem padd_comm (d : F) (p q : F × F) : padd d p q = padd d q p := by
  unfold padd
  rw [show p.1 * q.1 * p.2 * q.2 = q.1 * p.1 * q.2 * p.2 by grind -lia, show p.1 * q.2 + p.2 * q.1 = q.1 * p.2 + q.2 * p.1 by grind -lia, show p.2 * q.2 - p.1 * q.1 = q.2 * p.2 - q.1 * p.1 by grind -lia]
theorem inv_one : inv 1 = 1 := inv_eq (by grind -lia)
theorem padd_zero (d : F) (p : F × F) : padd d p (0, 1) = p := by
  unfold padd
  simp only
  rw [show (1 : F) + d * (p.1 * 0 * p.2 * 1) = 1 by grind -lia, show (1 : F) - d * (p.1 * 0 * p.2 * 1) = 1 by grind -lia, inv_one]
  apply Prod.ext <;> simp only <;> grind -lia

theorem padd_assoc {d : F} {p q r : F × F} (hd : ¬ Sq d) (hp : On d p) (hq : On d q) (hr : On d r) : padd d (padd d p q) r = padd d p (padd d q r) := by
  have hB := complete_add hd hp hq
  have hD := complete_sub hd hp hq
  have hB' := complete_add hd hq hr
  have hD' := complete_sub hd hq hr
  have hV := complete_add hd (padd_on hd hp hq) hr
  have hW := complete_sub hd (padd_on hd hp hq) hr
  have hV' := complete_add hd hp (padd_on hd hq hr)
  have hW' := complete_sub hd hp (padd_on hd hq hr)
  obtain ⟨x1, y1⟩ := p
  obtain ⟨x2, y2⟩ := q
  obtain ⟨x3, y3⟩ := r
  have ax := assocx d x1 y1 x2 y2 x3 y3 hp hq hr
  have ay := assocy d x1 y1 x2 y2 x3 y3 hp hq hr
  simp only at hB hD hB' hD'
  have iB := mul_inv hB
  have iD := mul_inv hD
  have iB' := mul_inv hB'
  have iD' := mul_inv hD'
  simp only [padd] at hV hW hV' hW' ⊢
  generalize inv (1 + d * (x1 * x2 * y1 * y2)) = b at *
  generalize inv (1 - d * (x1 * x2 * y1 * y2)) = c at *
  generalize inv (1 + d * (x2 * x3 * y2 * y3)) = b' at *
  generalize inv (1 - d * (x2 * x3 * y2 * y3)) = c' at *
  generalize (1 + d * (x1 * x2 * y1 * y2)) = B at *
  generalize (1 - d * (x1 * x2 * y1 * y2)) = D at *
  generalize (1 + d * (x2 * x3 * y2 * y3)) = B' at *
  generalize (1 - d * (x2 * x3 * y2 * y3)) = D' at *
  generalize x1 * y2 + y1 * x2 = A at *
  generalize y1 * y2 - x1 * x2 = C at *
  generalize x2 * y3 + y2 * x3 = A' at *
  generalize y2 * y3 - x2 * x3 = C' at *
  have hZ : (B * D) * (B' * D') ≠ 0 := mul_ne (mul_ne hB hD) (mul_ne hB' hD')
  apply Prod.ext
  · simp only
    refine frac_eq hV hV' (cancelF hZ ?_)
    have e1 : (A * b * y3 + C * c * x3) * (1 + d * (x1 * (A' * b') * y1 * (C' * c'))) * (B * D * (B' * D')) =
        (A * D * (B * b) * y3 + C * B * (D * c) * x3) * (B' * D' + d * x1 * y1 * A' * C' * (B' * b') * (D' * c')) := by grind -lia
    have e2 : (x1 * (C' * c') + y1 * (A' * b')) * (1 + d * (A * b * x3 * (C * c) * y3)) * (B * D * (B' * D')) =
        (x1 * C' * B' * (D' * c') + y1 * A' * D' * (B' * b')) * (B * D + d * A * C * (B * b) * (D * c) * x3 * y3) := by grind -lia
    rw [e1, e2, iB, iD, iB', iD']
    grind -lia
  · simp only
    refine frac_eq hW hW' (cancelF hZ ?_)
    have e1 : (C * c * y3 - A * b * x3) * (1 - d * (x1 * (A' * b') * y1 * (C' * c'))) * (B * D * (B' * D')) =
        (C * B * (D * c) * y3 - A * D * (B * b) * x3) * (B' * D' - d * x1 * y1 * A' * C' * (B' * b') * (D' * c')) := by grind -lia
    have e2 : (y1 * (C' * c') - x1 * (A' * b')) * (1 - d * (A * b * x3 * (C * c) * y3)) * (B * D * (B' * D')) =
        (y1 * C' * B' * (D' * c') - x1 * A' * D' * (B' * b')) * (B * D - d * A * C * (B * b) * (D * c) * x3 * y3) := by grind -lia
    rw [e1, e2, iB, iD, iB', iD']
    grind -lia

/-- n times a point. -/
def pmul (d : F) (p : F × F) : Nat → F × F
  | 0 => (0, 1)
  | n + 1 => padd d (pmul d p n) p
theorem zero_on (d : F) : On d (0, 1) := by unfold On; simp only; grind -lia
theorem pmul_on {d : F} {p : F × F} (hd : ¬ Sq d) (hp : On d p) : ∀ n, On d (pmul d p n)
  | 0 => zero_on d
  | n + 1 => padd_on hd (pmul_on hd hp n) hp
theorem pmul_add {d : F} {p : F × F} (hd : ¬ Sq d) (hp : On d p) (m : Nat) : ∀ n, pmul d p (m + n) = padd d (pmul d p m) (pmul d p n)
  | 0 => (padd_zero d _).symm
  | n + 1 => by
    show padd d (pmul d p (m + n)) p = padd d (pmul d p m) (padd d (pmul d p n) p)
    rw [pmul_add hd hp m n, padd_assoc hd (pmul_on hd hp m) (pmul_on hd hp n) hp]
theorem pmul_mul {d : F} {p : F × F} (hd : ¬ Sq d) (hp : On d p) (m : Nat) : ∀ n, pmul d (pmul d p m) n = pmul d p (m * n)
  | 0 => rfl
  | n + 1 => by
    show padd d (pmul d (pmul d p m) n) (pmul d p m) = _
    rw [pmul_mul hd hp m n, Nat.mul_succ, pmul_add hd hp]
theorem pmul_one {d : F} {p : F × F} : pmul d p 1 = p := by
  show padd d (0, 1) p = p
  rw [padd_comm, padd_zero]
def pneg (p : F × F) : F × F := (-p.1, p.2)
theorem pneg_on {d : F} {p : F × F} (hp : On d p) : On d (pneg p) := by
  unfold On pneg at *; simp only; grind -lia
theorem padd_pneg {d : F} {p : F × F} (hd : ¬ Sq d) (hp : On d p) : padd d p (pneg p) = (0, 1) := by
  have hB := complete_add hd hp (pneg_on hp)
  have hD := complete_sub hd hp (pneg_on hp)
  have iD := mul_inv hD
  unfold padd
  unfold On at hp
  simp only [pneg] at *
  apply Prod.ext
  · simp only
    rw [show p.1 * p.2 + p.2 * -p.1 = 0 by grind -lia]; grind -lia
  · simp only
    rw [show p.2 * p.2 - p.1 * -p.1 = 1 - d * (p.1 * -p.1 * p.2 * p.2) by grind -lia]; exact iD
/-! ### The ladder of RFC 7748, over the field. -/
def dblF (p : F × F) : F × F :=
  let s := (p.1 + p.2) * (p.1 + p.2)
  let t := (p.1 - p.2) * (p.1 - p.2)
  let e := s - t
  (s * t, e * (s + e * 121665))
def addF (u : F) (p q : F × F) : F × F :=
  let m := (q.1 - q.2) * (p.1 + p.2)
  let n := (q.1 + q.2) * (p.1 - p.2)
  ((m + n) * (m + n), u * ((m - n) * (m - n)))
def stepF (u : F) (s : (F × F) × (F × F)) (b : Bool) : (F × F) × (F × F) :=
  if b then (addF u s.1 s.2, dblF s.2) else (dblF s.1, addF u s.1 s.2)
def ladF (u : F) (bits : List Bool) : (F × F) × (F × F) := bits.foldl (stepF u) ((1, 0), (u, 1))
def outF (p : F × F) : F := p.1 * inv p.2
def xlF (u : F) (bits : List Bool) : F := outF (ladF u bits).1
def valB (bits : List Bool) : Nat := bits.foldl (fun n b => 2 * n + b.toNat) 0

/-- (X : Z) stands for the point of the part y: X / Z = e (1 + y) / (1 - y). -/
def Rel (e : F) (P : F × F) (p : F × F) : Prop := ∃ l : F, l ≠ 0 ∧ p.1 = l * (1 + P.2) ∧ p.2 = e * (l * (1 - P.2))
/-- e, d belong together: the curve itself, or that of the other sign. -/
def Fits (e d : F) : Prop := (e = 1 ∧ d * 121666 = 121665) ∨ (e = -1 ∧ d * 121665 = 121666)

theorem one_sub_ne {d x : F} (hd : ¬ Sq d) : 1 - d * (x * x) ≠ 0 := by
  intro h
  have hx : x ≠ 0 := by intro e; rw [e] at h; exact one_ne (by grind -lia)
  have hi := mul_inv hx
  generalize inv x = i at hi
  exact hd ⟨i, by grind -lia⟩
theorem four_ne : (4 : F) ≠ 0 := by decide
theorem eight_ne : (8 : F) ≠ 0 := by decide
theorem sixteen_ne : (16 : F) ≠ 0 := by decide

theorem dbl_g {d x y a g : F} (hon : x * x + y * y = 1 + d * x * x * y * y) (ha : d * (a + 1) = a) (hg : g = 1 + a * (1 - y * y)) : g * (1 - d * (x * x)) = 1 := by
  subst hg
  grind -lia

theorem dbl_rel {e d : F} {P p : F × F} (hd : ¬ Sq d) (hf : Fits e d) (hP : On d P) (h : Rel e P p) : Rel e (padd d P P) (dblF p) := by
  obtain ⟨l, hl, hX, hZ⟩ := h
  obtain ⟨x, y⟩ := P
  obtain ⟨X, Z⟩ := p
  have hD := complete_sub hd hP hP
  unfold On at hP
  simp only at hP hX hZ hD
  have iD := mul_inv hD
  unfold Rel dblF padd
  simp only
  generalize inv (1 - d * (x * x * y * y)) = c at *
  have hg : ∃ g : F, g * (1 - d * (x * x)) = 1 ∧ ((e = 1 ∧ g = 1 + 121665 * (1 - y * y)) ∨ (e = -1 ∧ g = y * y + 121665 * (y * y - 1))) := by
    rcases hf with ⟨he, hdd⟩ | ⟨he, hdd⟩
    · exact ⟨_, dbl_g hP (by rw [← hdd]; grind -lia) rfl, Or.inl ⟨he, rfl⟩⟩
    · refine ⟨_, dbl_g (a := -121666) hP ?_ rfl, Or.inr ⟨he, ?_⟩⟩
      · rw [show (-121666 : F) + 1 = -121665 by grind -lia]; grind -lia
      · grind -lia
  obtain ⟨g, hg1, hg2⟩ := hg
  have hg0 : g ≠ 0 := by intro e; rw [e] at hg1; exact one_ne (by grind -lia)
  refine ⟨8 * (l * l * l * l) * ((1 - d * (x * x * y * y)) * g), mul_ne (mul_ne eight_ne (mul_ne (mul_ne (mul_ne hl hl) hl) hl)) (mul_ne hD hg0), ?_, ?_⟩
  · have e1 : (1 - d * (x * x * y * y)) * (1 + (y * y - x * x) * c) = 2 * (y * y * (1 - d * (x * x))) := by
      rw [show (1 - d * (x * x * y * y)) * (1 + (y * y - x * x) * c) = (1 - d * (x * x * y * y)) + (y * y - x * x) * ((1 - d * (x * x * y * y)) * c) by grind -lia, iD]
      grind -lia
    rw [show 8 * (l * l * l * l) * ((1 - d * (x * x * y * y)) * g) * (1 + (y * y - x * x) * c) = 8 * (l * l * l * l) * g * ((1 - d * (x * x * y * y)) * (1 + (y * y - x * x) * c)) by grind -lia, e1]
    rw [show 8 * (l * l * l * l) * g * (2 * (y * y * (1 - d * (x * x)))) = 16 * (l * l * l * l) * (y * y) * (g * (1 - d * (x * x))) by grind -lia, hg1, hX, hZ]
    rcases hg2 with ⟨he, _⟩ | ⟨he, _⟩ <;> subst he <;> grind -lia
  · have e1 : (1 - d * (x * x * y * y)) * (1 - (y * y - x * x) * c) = 2 * (1 - y * y) := by
      rw [show (1 - d * (x * x * y * y)) * (1 - (y * y - x * x) * c) = (1 - d * (x * x * y * y)) - (y * y - x * x) * ((1 - d * (x * x * y * y)) * c) by grind -lia, iD]
      grind -lia
    rw [show e * (8 * (l * l * l * l) * ((1 - d * (x * x * y * y)) * g) * (1 - (y * y - x * x) * c)) = e * (8 * (l * l * l * l) * g * ((1 - d * (x * x * y * y)) * (1 - (y * y - x * x) * c))) by grind -lia, e1, hX, hZ]
    clear e1 iD hg1 hD hP
    rcases hg2 with ⟨he, hgg⟩ | ⟨he, hgg⟩ <;> subst he hgg <;> grind -lia

theorem fits_sq {e d : F} (hf : Fits e d) : e * e = 1 := by
  rcases hf with ⟨h, _⟩ | ⟨h, _⟩ <;> subst h <;> grind -lia

theorem add_rel {e d u : F} {P R p q : F × F} (hd : ¬ Sq d) (hf : Fits e d) (hP : On d P) (hR : On d R) (hu : u ≠ 0)
    (hG : u * (e * (1 - (padd d R (pneg P)).2)) = 1 + (padd d R (pneg P)).2)
    (h : Rel e P p) (h' : Rel e R q) : Rel e (padd d P R) (addF u p q) := by
  obtain ⟨l, hl, hX, hZ⟩ := h
  obtain ⟨k, hk, hX', hZ'⟩ := h'
  have hB := complete_add hd hP hR
  have hD := complete_sub hd hP hR
  obtain ⟨x1, y1⟩ := P
  obtain ⟨x2, y2⟩ := R
  obtain ⟨X1, Z1⟩ := p
  obtain ⟨X2, Z2⟩ := q
  have hid := daddid d x1 y1 x2 y2 hP hR
  have hee := fits_sq hf
  unfold On at hP hR
  unfold pneg padd at hG
  simp only at hB hD hP hR hX hZ hX' hZ' hG
  rw [show 1 - d * (x2 * -x1 * y2 * y1) = 1 + d * (x1 * x2 * y1 * y2) by grind -lia, show y2 * y1 - x2 * -x1 = y1 * y2 + x1 * x2 by grind -lia] at hG
  have iB := mul_inv hB
  have iD := mul_inv hD
  unfold Rel addF padd
  simp only
  generalize inv (1 + d * (x1 * x2 * y1 * y2)) = b at *
  generalize inv (1 - d * (x1 * x2 * y1 * y2)) = c at *
  -- the product of both sides
  have hST : (1 + (y1 * y2 - x1 * x2) * c) * (1 + (y1 * y2 + x1 * x2) * b) * ((y1 - y2) * (y1 - y2)) = (1 - (y1 * y2 - x1 * x2) * c) * (1 - (y1 * y2 + x1 * x2) * b) * ((y1 + y2) * (y1 + y2)) := by
    have hBD : (1 + d * (x1 * x2 * y1 * y2)) * (1 - d * (x1 * x2 * y1 * y2)) ≠ 0 := mul_ne hB hD
    refine cancelF hBD ?_
    generalize (1 + d * (x1 * x2 * y1 * y2)) = B at *
    generalize (1 - d * (x1 * x2 * y1 * y2)) = D at *
    rw [show (1 + (y1 * y2 - x1 * x2) * c) * (1 + (y1 * y2 + x1 * x2) * b) * ((y1 - y2) * (y1 - y2)) * (B * D) = (D + (y1 * y2 - x1 * x2) * (D * c)) * (B + (y1 * y2 + x1 * x2) * (B * b)) * ((y1 - y2) * (y1 - y2)) by grind -lia,
      show (1 - (y1 * y2 - x1 * x2) * c) * (1 - (y1 * y2 + x1 * x2) * b) * ((y1 + y2) * (y1 + y2)) * (B * D) = (D - (y1 * y2 - x1 * x2) * (D * c)) * (B - (y1 * y2 + x1 * x2) * (B * b)) * ((y1 + y2) * (y1 + y2)) by grind -lia, iB, iD]
    clear hG hX hZ hX' hZ' hP hR hee
    grind -lia
  have hne : 1 - (y1 * y2 + x1 * x2) * b ≠ 0 := by
    intro h0
    rw [h0] at hG
    have h1 : 1 + (y1 * y2 + x1 * x2) * b = 0 := by rw [← hG]; grind -lia
    exact two_ne (by grind -lia)
  have hne' : 1 + (y1 * y2 + x1 * x2) * b ≠ 0 := by
    rw [← hG]
    refine mul_ne hu (mul_ne ?_ hne)
    intro h0; rw [h0] at hee; exact one_ne (by grind -lia)
  have hS0 : (y1 + y2) * (y1 + y2) = 0 → (y1 - y2) * (y1 - y2) = 0 → False := by
    intro hs ht
    have hs' := sq_zero hs
    have ht' := sq_zero ht
    have h2y : 2 * y1 = 0 := by grind -lia
    have hy1 : y1 = 0 := (mul_zero_or h2y).elim (fun h => absurd h two_ne) id
    have hy2 : y2 = 0 := by grind -lia
    subst hy1 hy2
    have hx1 : x1 * x1 = 1 := by grind -lia
    have hx2 : x2 * x2 = 1 := by grind -lia
    have hb : b = 1 := by grind -lia
    subst hb
    refine mul_ne hne hne' ?_
    grind -lia
  generalize (y1 * y2 - x1 * x2) * c = yp at *
  generalize (y1 * y2 + x1 * x2) * b = y0 at *
  have hcross : (1 + yp) * (u * e * ((y1 - y2) * (y1 - y2))) = (1 - yp) * ((y1 + y2) * (y1 + y2)) := by
    refine cancelF hne ?_
    rw [show (1 - yp) * ((y1 + y2) * (y1 + y2)) * (1 - y0) = (1 - yp) * (1 - y0) * ((y1 + y2) * (y1 + y2)) by grind -lia, ← hST, ← hG]
    grind -lia
  have hX5 : ((X2 - Z2) * (X1 + Z1) + (X2 + Z2) * (X1 - Z1)) * ((X2 - Z2) * (X1 + Z1) + (X2 + Z2) * (X1 - Z1)) = 16 * (l * l * k * k) * ((y1 + y2) * (y1 + y2)) := by
    rw [hX, hZ, hX', hZ']
    rcases hf with ⟨he, _⟩ | ⟨he, _⟩ <;> subst he <;> grind -lia
  have hZ5 : u * (((X2 - Z2) * (X1 + Z1) - (X2 + Z2) * (X1 - Z1)) * ((X2 - Z2) * (X1 + Z1) - (X2 + Z2) * (X1 - Z1))) = 16 * (l * l * k * k) * (u * ((y1 - y2) * (y1 - y2))) := by
    rw [hX, hZ, hX', hZ']
    rcases hf with ⟨he, _⟩ | ⟨he, _⟩ <;> subst he <;> grind -lia
  rw [hX5, hZ5]
  clear hX5 hZ5 hX hZ hX' hZ' hG hST hid hP hR iB iD hB hD hf
  generalize (y1 + y2) * (y1 + y2) = S at *
  generalize (y1 - y2) * (y1 - y2) = T at *
  have i2 := mul_inv two_ne
  generalize inv 2 = h at i2
  refine ⟨16 * (l * l * k * k) * ((S + u * e * T) * h), mul_ne (mul_ne sixteen_ne (mul_ne (mul_ne (mul_ne hl hl) hk) hk)) (mul_ne ?_ ?_), ?_, ?_⟩
  · intro h0
    have hS : S = 0 := by grind -lia
    have hu' : u * e * T = 0 := by grind -lia
    have he0 : u * e ≠ 0 := mul_ne hu (by intro h0; rw [h0] at hee; exact one_ne (by grind -lia))
    exact hS0 hS ((mul_zero_or hu').elim (fun h => absurd h he0) id)
  · intro h0; rw [h0] at i2; exact one_ne (by grind -lia)
  · have : (S + u * e * T) * h * (1 + yp) = S := by grind -lia
    rw [show 16 * (l * l * k * k) * ((S + u * e * T) * h) * (1 + yp) = 16 * (l * l * k * k) * ((S + u * e * T) * h * (1 + yp)) by grind -lia, this]
  · have : e * ((S + u * e * T) * h * (1 - yp)) = u * T := by grind -lia
    rw [show e * (16 * (l * l * k * k) * ((S + u * e * T) * h) * (1 - yp)) = 16 * (l * l * k * k) * (e * ((S + u * e * T) * h * (1 - yp))) by grind -lia, this]
/-- What the ladder keeps. -/
theorem lad_inv {e d u : F} {G : F × F} (hd : ¬ Sq d) (hf : Fits e d) (hG : On d G) (hu : u ≠ 0) (hug : u * (e * (1 - G.2)) = 1 + G.2) :
    ∀ (bits : List Bool) (n : Nat) (s : (F × F) × (F × F)), Rel e (pmul d G n) s.1 → Rel e (pmul d G (n + 1)) s.2 →
      Rel e (pmul d G (bits.foldl (fun n b => 2 * n + b.toNat) n)) (bits.foldl (stepF u) s).1 ∧
      Rel e (pmul d G (bits.foldl (fun n b => 2 * n + b.toNat) n + 1)) (bits.foldl (stepF u) s).2
  | [], n, s, h1, h2 => ⟨h1, h2⟩
  | b :: bits, n, s, h1, h2 => by
    have hn := pmul_on hd hG n
    have hn1 := pmul_on hd hG (n + 1)
    have hdiff : padd d (pmul d G (n + 1)) (pneg (pmul d G n)) = G := by
      rw [Nat.add_comm n 1, pmul_add hd hG, padd_assoc hd (pmul_on hd hG 1) hn (pneg_on hn), padd_pneg hd hn, padd_zero, pmul_one]
    have ha : Rel e (pmul d G (n + (n + 1))) (addF u s.1 s.2) := by
      rw [pmul_add hd hG]
      exact add_rel hd hf hn hn1 hu (by rw [hdiff]; exact hug) h1 h2
    simp only [List.foldl_cons]
    refine lad_inv hd hf hG hu hug bits (2 * n + b.toNat) _ ?_ ?_
    · cases b
      · have := dbl_rel hd hf hn h1
        rw [← pmul_add hd hG] at this
        rw [show 2 * n + false.toNat = n + n by simp; omega]; exact this
      · rw [show 2 * n + true.toNat = n + (n + 1) by simp; omega]; exact ha
    · cases b
      · rw [show 2 * n + false.toNat + 1 = n + (n + 1) by simp; omega]; exact ha
      · have := dbl_rel hd hf hn1 h2
        rw [← pmul_add hd hG] at this
        rw [show 2 * n + true.toNat + 1 = (n + 1) + (n + 1) by simp; omega]; exact this

/-- The part u of a point, 0 at the point 0. -/
def uOf (e : F) (P : F × F) : F := e * (1 + P.2) * inv (1 - P.2)

theorem out_rel {e : F} {P p : F × F} (hee : e * e = 1) (h : Rel e P p) : outF p = uOf e P := by
  obtain ⟨l, hl, hX, hZ⟩ := h
  unfold outF uOf
  have he : e ≠ 0 := by intro h0; rw [h0] at hee; exact one_ne (by grind -lia)
  by_cases h0 : 1 - P.2 = 0
  · rw [hZ, h0, show e * (l * 0) = 0 by grind -lia, inv_zero]; grind -lia
  · have hZ0 : p.2 ≠ 0 := by rw [hZ]; exact mul_ne he (mul_ne hl h0)
    refine frac_eq hZ0 h0 ?_
    rw [hX, hZ]
    rw [show e * (1 + P.2) * (e * (l * (1 - P.2))) = e * e * (l * (1 + P.2) * (1 - P.2)) by grind -lia, hee]; grind -lia

theorem xl_main {e d u : F} {G : F × F} (hd : ¬ Sq d) (hf : Fits e d) (hG : On d G) (hu : u ≠ 0) (hug : u * (e * (1 - G.2)) = 1 + G.2) (bits : List Bool) :
    xlF u bits = uOf e (pmul d G (valB bits)) := by
  have hee := fits_sq hf
  have he : e ≠ 0 := by intro h0; rw [h0] at hee; exact one_ne (by grind -lia)
  refine out_rel hee (lad_inv hd hf hG hu hug bits 0 ((1, 0), (u, 1)) ?_ ?_).1
  · have i2 := mul_inv two_ne
    refine ⟨inv 2, ?_, ?_, ?_⟩
    · intro h0; rw [h0] at i2; exact one_ne (by grind -lia)
    · show (1 : F) = inv 2 * (1 + 1)
      generalize inv 2 = h at *
      grind -lia
    · show (0 : F) = e * (inv 2 * (1 - 1))
      grind -lia
  · have h1 : 1 - G.2 ≠ 0 := by
      intro h0; rw [h0] at hug
      exact two_ne (by grind -lia)
    have i1 := mul_inv h1
    rw [Nat.zero_add, pmul_one]
    refine ⟨e * inv (1 - G.2), mul_ne he ?_, ?_, ?_⟩
    · intro h0; rw [h0] at i1; exact one_ne (by grind -lia)
    · show u = _
      rw [← hug]
      rw [show e * inv (1 - G.2) * (u * (e * (1 - G.2))) = e * e * u * ((1 - G.2) * inv (1 - G.2)) by grind -lia, i1, hee]; grind -lia
    · show (1 : F) = _
      rw [show e * (e * inv (1 - G.2) * (1 - G.2)) = e * e * ((1 - G.2) * inv (1 - G.2)) by grind -lia, i1, hee]; grind -lia

/-- Of 0: by bits that end in false the ladder makes 0. -/
theorem xl_zero (bits : List Bool) : xlF 0 (bits ++ [false]) = 0 := by
  have inv0 : ∀ (l : List Bool) (s : (F × F) × (F × F)), s.1.1 * s.1.2 = 0 → s.2.1 * s.2.2 = 0 →
      (l.foldl (stepF 0) s).1.1 * (l.foldl (stepF 0) s).1.2 = 0 ∧ (l.foldl (stepF 0) s).2.1 * (l.foldl (stepF 0) s).2.2 = 0 := by
    intro l
    induction l with
    | nil => intro s h1 h2; exact ⟨h1, h2⟩
    | cons b l ih =>
      intro s h1 h2
      simp only [List.foldl_cons]
      cases b
      · refine ih _ ?_ ?_
        · show (dblF s.1).1 * (dblF s.1).2 = 0
          simp only [dblF]
          rw [show (s.1.1 + s.1.2) * (s.1.1 + s.1.2) - (s.1.1 - s.1.2) * (s.1.1 - s.1.2) = 4 * (s.1.1 * s.1.2) by grind -lia, h1]; grind -lia
        · show (addF 0 s.1 s.2).1 * (addF 0 s.1 s.2).2 = 0
          simp only [addF]; grind -lia
      · refine ih _ ?_ ?_
        · show (addF 0 s.1 s.2).1 * (addF 0 s.1 s.2).2 = 0
          simp only [addF]; grind -lia
        · show (dblF s.2).1 * (dblF s.2).2 = 0
          simp only [dblF]
          rw [show (s.2.1 + s.2.2) * (s.2.1 + s.2.2) - (s.2.1 - s.2.2) * (s.2.1 - s.2.2) = 4 * (s.2.1 * s.2.2) by grind -lia, h2]; grind -lia
  unfold xlF ladF
  rw [List.foldl_append]
  have := (inv0 bits ((1, 0), (0, 1)) (by show (1 : F) * 0 = 0; grind -lia) (by show (0 : F) * 1 = 0; grind -lia)).1
  generalize bits.foldl (stepF 0) ((1, 0), (0, 1)) = s at *
  show outF (dblF s.1) = 0
  unfold outF
  have hz : (dblF s.1).2 = 0 := by
    simp only [dblF]
    rw [show (s.1.1 + s.1.2) * (s.1.1 + s.1.2) - (s.1.1 - s.1.2) * (s.1.1 - s.1.2) = 4 * (s.1.1 * s.1.2) by grind -lia, this]; grind -lia
  rw [hz, inv_zero]; grind -lia

theorem valB_snoc (bits : List Bool) (b : Bool) : valB (bits ++ [b]) = 2 * valB bits + b.toNat := by
  unfold valB; rw [List.foldl_append]; rfl

/-- Whatever point of the curve: the ladder by an even number. -/
theorem xl_even {e d : F} {G : F × F} (hd : ¬ Sq d) (hf : Fits e d) (hG : On d G) (bits : List Bool) :
    xlF (uOf e G) (bits ++ [false]) = uOf e (pmul d G (valB (bits ++ [false]))) := by
  have hee := fits_sq hf
  have he : e ≠ 0 := by intro h0; rw [h0] at hee; exact one_ne (by grind -lia)
  have hd1 : 1 - d ≠ 0 := by
    have := one_sub_ne (x := 1) hd
    rwa [show (1 : F) * 1 = 1 by grind -lia, show d * 1 = d by grind -lia] at this
  have hx0 : G.2 * G.2 = 1 → G.1 = 0 := by
    intro h
    unfold On at hG
    have : (1 - d) * (G.1 * G.1) = 0 := by
      generalize G.1 = x at *; generalize G.2 = y at *; grind -lia
    exact sq_zero ((mul_zero_or this).elim (fun h => absurd h hd1) id)
  have hzero : uOf e (0, 1) = 0 := by
    unfold uOf
    simp only
    rw [show (1 : F) - 1 = 0 by grind -lia, inv_zero]; grind -lia
  by_cases h1 : 1 - G.2 = 0
  · have hy : G.2 = 1 := by generalize G.2 = y at *; grind -lia
    have hx := hx0 (by rw [hy]; grind -lia)
    have hGe : G = (0, 1) := Prod.ext hx hy
    subst hGe
    have hm : ∀ n, pmul d (0, 1) n = (0, 1) := by
      intro n
      induction n with
      | zero => rfl
      | succ n ih => show padd d (pmul d (0, 1) n) (0, 1) = _; rw [padd_zero, ih]
    rw [hm, hzero]; exact xl_zero bits
  · by_cases h2 : 1 + G.2 = 0
    · have hy : G.2 = -1 := by generalize G.2 = y at *; grind -lia
      have hx := hx0 (by rw [hy]; grind -lia)
      have hGe : G = (0, -1) := Prod.ext hx hy
      subst hGe
      have hu0 : uOf e (0, -1) = 0 := by
        unfold uOf
        simp only
        rw [show (1 : F) + -1 = 0 by grind -lia]; grind -lia
      rw [hu0, xl_zero, valB_snoc]
      have h2m : pmul d (0, -1) 2 = (0, 1) := by
        show padd d (padd d (0, 1) (0, -1)) (0, -1) = _
        rw [padd_comm d (0, 1), padd_zero]
        unfold padd
        simp only
        rw [show (1 : F) + d * (0 * 0 * -1 * -1) = 1 by grind -lia, show (1 : F) - d * (0 * 0 * -1 * -1) = 1 by grind -lia, inv_one]
        apply Prod.ext <;> simp only <;> grind -lia
      have hm : ∀ n, pmul d (0, 1) n = (0, 1) := by
        intro n
        induction n with
        | zero => rfl
        | succ n ih => show padd d (pmul d (0, 1) n) (0, 1) = _; rw [padd_zero, ih]
      rw [show 2 * valB bits + false.toNat = 2 * valB bits by simp, ← pmul_mul hd hG, h2m, hm, hzero]
    · have hi := mul_inv h1
      refine xl_main hd hf hG ?_ ?_ _
      · unfold uOf
        refine mul_ne (mul_ne he h2) ?_
        intro h0; rw [h0] at hi; exact one_ne (by grind -lia)
      · unfold uOf
        rw [show e * (1 + G.2) * inv (1 - G.2) * (e * (1 - G.2)) = e * e * (1 + G.2) * ((1 - G.2) * inv (1 - G.2)) by grind -lia, hi, hee]; grind -lia

/-! ### Every u is the part of a point of one of both curves. -/
theorem c_nonsq : ¬ Sq ((486664 : F) * 486660) := nonsq_of (by decide) (fp_by _ _ 256 (by decide +kernel) (-1) (by decide +kernel))
theorem d_ex1 : ∃ d : F, d * 121666 = 121665 ∧ ¬ Sq d := by
  have hi := mul_inv (a := (121666 : F)) (by decide)
  refine ⟨121665 * inv 121666, ?_, ?_⟩
  · generalize inv 121666 = i at *; grind -lia
  · rintro ⟨s, hs⟩
    refine c_nonsq ⟨486664 * s, ?_⟩
    rw [show (486664 : F) * s * (486664 * s) = 486664 * 486664 * (s * s) by grind -lia, hs]
    generalize inv 121666 = i at *
    rw [show (486664 : F) * 486664 * (121665 * i) = 486664 * 486660 * (121666 * i) by grind -lia, hi]; grind -lia
theorem d_ex2 : ∃ d : F, d * 121665 = 121666 ∧ ¬ Sq d := by
  have hi := mul_inv (a := (121665 : F)) (by decide)
  refine ⟨121666 * inv 121665, ?_, ?_⟩
  · generalize inv 121665 = i at *; grind -lia
  · rintro ⟨s, hs⟩
    refine c_nonsq ⟨486660 * s, ?_⟩
    rw [show (486660 : F) * s * (486660 * s) = 486660 * 486660 * (s * s) by grind -lia, hs]
    generalize inv 121665 = i at *
    rw [show (486660 : F) * 486660 * (121666 * i) = 486664 * 486660 * (121665 * i) by grind -lia, hi]; grind -lia

theorem w_ne (u : F) : u * u + 486662 * u + 1 ≠ 0 := by
  intro h
  refine c_nonsq ⟨2 * u + 486662, ?_⟩
  have : (2 * u + 486662) * (2 * u + 486662) = 4 * (u * u + 486662 * u + 1) + 486664 * 486660 := by grind -lia
  rw [this, h]; grind -lia

/-- On the curve with the sign e: u is the part of a point when (e A + 2) u w is a square. -/
theorem lift_u {e d a u : F} (hf : Fits e d) (hu : u ≠ 0) (ha : a = 486662 + 2 * e) (hs : Sq (a * (u * (u * u + 486662 * u + 1)))) :
    ∃ G, On d G ∧ u = uOf e G := by
  have hee := fits_sq hf
  have he : e ≠ 0 := by intro h0; rw [h0] at hee; exact one_ne (by grind -lia)
  have hw := w_ne u
  obtain ⟨s, hs⟩ := hs
  have hue : u + e ≠ 0 := by
    intro h0
    have h1 : u = -e := by grind -lia
    subst h1
    refine c_nonsq ⟨s, ?_⟩
    rw [hs, ha]
    rcases hf with ⟨he1, _⟩ | ⟨he1, _⟩ <;> subst he1 <;> grind -lia
  have hi := mul_inv hue
  have hiw := mul_inv hw
  have h2 := mul_inv two_ne
  refine ⟨(s * inv (u * u + 486662 * u + 1), (u - e) * inv (u + e)), ?_, ?_⟩
  · unfold On
    simp only
    generalize inv (u * u + 486662 * u + 1) = j at *
    have hwd : (u * u + 486662 * u + 1) = u * u + 486662 * u + 1 := rfl
    generalize hwe : (u * u + 486662 * u + 1) = w at *
    clear hwd
    generalize inv (u + e) = i at *
    -- multiplied by w and (u + e)^2
    have hz : w * ((u + e) * (u + e)) ≠ 0 := mul_ne hw (mul_ne hue hue)
    refine cancelF hz ?_
    have x2 : s * j * (s * j) * w = a * u := by
      rw [show s * j * (s * j) * w = s * s * j * (w * j) by grind -lia, hs, hiw]
      rw [show a * (u * w) * j * 1 = a * u * (w * j) by grind -lia, hiw]; grind -lia
    have y2 : (u - e) * i * ((u - e) * i) * ((u + e) * (u + e)) = (u - e) * (u - e) := by
      rw [show (u - e) * i * ((u - e) * i) * ((u + e) * (u + e)) = (u - e) * (u - e) * (((u + e) * i) * ((u + e) * i)) by grind -lia, hi]; grind -lia
    generalize s * j * (s * j) = xx at *
    rw [show (1 + d * (s * j) * (s * j) * ((u - e) * i) * ((u - e) * i)) * (w * ((u + e) * (u + e))) = w * ((u + e) * (u + e)) + d * ((s * j * (s * j)) * w) * ((u - e) * i * ((u - e) * i) * ((u + e) * (u + e))) by grind -lia]
    rw [show s * j * (s * j) * w = a * u by rw [show s * j * (s * j) * w = s * s * j * (w * j) by grind -lia, hs, hiw, show a * (u * w) * j * 1 = a * u * (w * j) by grind -lia, hiw]; grind -lia]
    rw [show (xx + (u - e) * i * ((u - e) * i)) * (w * ((u + e) * (u + e))) = xx * w * ((u + e) * (u + e)) + w * ((u - e) * i * ((u - e) * i) * ((u + e) * (u + e))) by grind -lia, x2, y2, ha, ← hwe]
    rcases hf with ⟨he1, hdd⟩ | ⟨he1, hdd⟩ <;> subst he1 <;> clear hs hw hiw hwe hz x2 y2 hi h2 hee he hue <;> grind -lia
  · unfold uOf
    simp only
    have h1 : 1 - (u - e) * inv (u + e) ≠ 0 := by
      intro h0
      have : (1 - (u - e) * inv (u + e)) * (u + e) = 2 * e := by
        generalize inv (u + e) = i at *; grind -lia
      rw [h0] at this
      refine mul_ne two_ne he ?_
      rw [← this]; grind -lia
    have hk := mul_inv h1
    refine cancelF h1 ?_
    generalize inv (1 - (u - e) * inv (u + e)) = k at *
    generalize inv (u + e) = i at *
    rw [show e * (1 + (u - e) * i) * k * (1 - (u - e) * i) = e * (1 + (u - e) * i) * ((1 - (u - e) * i) * k) by grind -lia, hk]
    refine cancelF hue ?_
    clear hk h1
    grind -lia

theorem every_u (u : F) : ∃ e d G, ¬ Sq d ∧ Fits e d ∧ On d G ∧ u = uOf e G := by
  obtain ⟨d1, hd1, hn1⟩ := d_ex1
  obtain ⟨d2, hd2, hn2⟩ := d_ex2
  by_cases hu : u = 0
  · refine ⟨1, d1, (0, 1), hn1, Or.inl ⟨rfl, hd1⟩, zero_on _, ?_⟩
    unfold uOf
    simp only
    rw [show (1 : F) - 1 = 0 by grind -lia, inv_zero, hu]; grind -lia
  · by_cases hs : Sq (486664 * (u * (u * u + 486662 * u + 1)))
    · obtain ⟨G, h1, h2⟩ := lift_u (e := 1) (a := 486664) (Or.inl ⟨rfl, hd1⟩) hu (by decide) hs
      exact ⟨1, d1, G, hn1, Or.inl ⟨rfl, hd1⟩, h1, h2⟩
    · have hs2 : Sq (486660 * (u * (u * u + 486662 * u + 1))) := by
        obtain ⟨s, hs'⟩ := nonsq_mul hs c_nonsq
        have hi := mul_inv (a := (486664 : F)) (by decide)
        generalize inv 486664 = i at *
        refine ⟨s * i, ?_⟩
        rw [show s * i * (s * i) = s * s * (i * i) by grind -lia, hs']
        rw [show 486664 * (u * (u * u + 486662 * u + 1)) * (486664 * 486660) * (i * i) = 486660 * (u * (u * u + 486662 * u + 1)) * ((486664 * i) * (486664 * i)) by grind -lia, hi]; grind -lia
      obtain ⟨G, h1, h2⟩ := lift_u (e := -1) (a := 486660) (Or.inr ⟨rfl, hd2⟩) hu (by decide) hs2
      exact ⟨-1, d2, G, hn2, Or.inr ⟨rfl, hd2⟩, h1, h2⟩

/-- THE LAW: two ladders by even numbers do not hang on their order. -/
theorem xl_comm (u : F) (a b : List Bool) : xlF (xlF u (a ++ [false])) (b ++ [false]) = xlF (xlF u (b ++ [false])) (a ++ [false]) := by
  obtain ⟨e, d, G, hd, hf, hG, rfl⟩ := every_u u
  rw [xl_even hd hf hG, xl_even hd hf hG, xl_even hd hf (pmul_on hd hG _), xl_even hd hf (pmul_on hd hG _), pmul_mul hd hG, pmul_mul hd hG, Nat.mul_comm]
end MSE
