/-
  Blocks of the call's own, each known whole: what a walk keeps of them behind stores, calls and allocations.
-/
import Derived.Test.YtfckjilhkdlpfaaDoorKit
import Derived.Below
import Derived.Laws.Rows
import Derived.Laws.AppendOwn
namespace MS
open Go Go.RowKit
/-- A block: its number, its cells, their type. -/
abbrev Blk := Nat × Array Value × TypeId
structure Rw (w0 : World) (l : List Blk) (w : World) : Prop where
  nd : (l.map (·.1)).Nodup
  ge : ∀ r ∈ l, w0.heap.size ≤ r.1
  rows : ∀ r ∈ l, w.heap[r.1]? = some (.cells r.2.1 r.2.2 (0, 0))
  bel : Below w0.heap.size w0 w
theorem Rw.nil (w : World) : Rw w [] w := ⟨by simp, by simp, by simp, Below.refl _ _⟩
theorem Rw.lt {w0 w : World} {l : List Blk} (h : Rw w0 l w) (r : Blk) (hr : r ∈ l) : r.1 < w.heap.size := (Array.getElem?_eq_some_iff.1 (h.rows r hr)).1
theorem Rw.on {w0 w w' : World} {l : List Blk} (h : Rw w0 l w) (hb : Below w.heap.size w w') : Rw w0 l w' :=
  ⟨h.nd, h.ge, fun r hr => (hb.block _ (h.lt r hr)).trans (h.rows r hr), h.bel.trans (hb.mono h.bel.size)⟩
theorem Rw.drew {w0 w : World} {l : List Blk} (h : Rw w0 l w) : Rw w0 l w.drew := ⟨h.nd, h.ge, h.rows, h.bel.drew⟩
theorem Rw.drewN {w0 w : World} {l : List Blk} (h : Rw w0 l w) (k : Nat) : Rw w0 l (w.drewN k) := ⟨h.nd, h.ge, h.rows, ⟨h.bel.os, h.bel.tape, h.bel.output, h.bel.size, h.bel.block⟩⟩
theorem Rw.alloc {w0 w : World} {l : List Blk} (h : Rw w0 l w) (cs : Array Value) (T : TypeId) : Rw w0 (l ++ [(w.heap.size, cs, T)]) (w.alloc (.cells cs T (0, 0))) := by
  refine ⟨?_, ?_, ?_, h.bel.alloc h.bel.size _⟩
  · rw [List.map_append, List.nodup_append]
    refine ⟨h.nd, by simp, ?_⟩
    intro a ha b hb
    obtain ⟨r, hr, rfl⟩ := List.mem_map.1 ha
    simp only [List.map_cons, List.map_nil, List.mem_singleton] at hb
    have := h.lt r hr
    omega
  · intro r hr
    rcases List.mem_append.1 hr with h1 | h1
    · exact h.ge r h1
    · rw [List.mem_singleton.1 h1]; exact h.bel.size
  · intro r hr
    rcases List.mem_append.1 hr with h1 | h1
    · exact ((MapKept.heap_alloc w _).2 _ (h.lt r h1)).trans (h.rows r h1)
    · rw [List.mem_singleton.1 h1]; exact (MapKept.heap_alloc w _).1
/-- Blocks of no interest, made in between. -/
theorem Rw.alloc_other {w0 w : World} {l : List Blk} (h : Rw w0 l w) (o : Obj) : Rw w0 l (w.alloc o) := h.on ((Below.refl _ _).alloc (Nat.le_refl _) o)
theorem Rw.drop {w0 w : World} {l : List Blk} {r : Blk} (h : Rw w0 (r :: l) w) : Rw w0 l w :=
  ⟨(List.nodup_cons.1 h.nd).2, fun s hs => h.ge s (List.mem_cons_of_mem _ hs), fun s hs => h.rows s (List.mem_cons_of_mem _ hs), h.bel⟩
theorem Rw.row {w0 w : World} {l : List Blk} (h : Rw w0 l w) (i : Nat) {g : Nat} {cs : Array Value} {T : TypeId} (hi : l[i]? = some (g, cs, T) := by rfl) : w.heap[g]? = some (.cells cs T (0, 0)) := h.rows _ (List.mem_of_getElem? hi)
theorem Rw.cell {w0 w : World} {l : List Blk} (h : Rw w0 l w) (i j : Nat) {g : Nat} {cs : Array Value} {T : TypeId} {v : Value} (hv : cs[j]? = some v) (hi : l[i]? = some (g, cs, T) := by rfl) : w.cell? ⟨g, j, none⟩ = some v := by
  rw [cell_of_row w g j cs T (0, 0) (h.row i hi), hv]
theorem Rw.free {w0 w : World} {l : List Blk} (h : Rw w0 l w) (i j : Nat) {g : Nat} {cs : Array Value} {T : TypeId} (hi : l[i]? = some (g, cs, T) := by rfl) : w.frozen? ⟨g, j, none⟩ = false := frozen_of_row w g j cs T (h.row i hi)
theorem set_map (l : List Blk) (i g : Nat) (cs cs' : Array Value) (T : TypeId) (hi : l[i]? = some (g, cs, T)) : (l.set i (g, cs', T)).map (·.1) = l.map (·.1) := by
  apply List.ext_getElem?
  intro j
  rw [List.getElem?_map, List.getElem?_set, List.getElem?_map]
  by_cases e : i = j
  · subst e
    have hl : i < l.length := (List.getElem?_eq_some_iff.1 hi).1
    rw [if_pos rfl, if_pos hl, hi]; rfl
  · rw [if_neg e]
theorem mem_set_cases {l : List Blk} {i : Nat} {b r : Blk} (hr : r ∈ l.set i b) : r = b ∨ ∃ j, j ≠ i ∧ l[j]? = some r := by
  obtain ⟨j, hj⟩ := List.mem_iff_getElem?.1 hr
  rw [List.getElem?_set] at hj
  by_cases e : i = j
  · rw [if_pos e] at hj
    split at hj
    · exact .inl (Option.some.inj hj).symm
    · cases hj
  · rw [if_neg e] at hj
    exact .inr ⟨j, fun h => e h.symm, hj⟩
theorem nodup_ne {l : List Blk} (h : (l.map (·.1)).Nodup) {i j : Nat} {a b : Blk} (hi : l[i]? = some a) (hj : l[j]? = some b) (hne : j ≠ i) : b.1 ≠ a.1 := by
  intro e
  have hi' : (l.map (·.1))[i]? = some a.1 := by rw [List.getElem?_map, hi]; rfl
  have hj' : (l.map (·.1))[j]? = some a.1 := by rw [List.getElem?_map, hj]; exact congrArg some e
  exact hne ((List.getElem?_inj (List.getElem?_eq_some_iff.1 hi').1 h).1 (hi'.trans hj'.symm)).symm
theorem Rw.change {w0 w w' : World} {l : List Blk} (h : Rw w0 l w) (i : Nat) {g : Nat} {cs : Array Value} {T : TypeId} (cs' : Array Value) (hi : l[i]? = some (g, cs, T)) (h1 : w'.heap[g]? = some (.cells cs' T (0, 0)))
    (h2 : ∀ k, k ≠ g → w'.heap[k]? = w.heap[k]?) (hb : Below w0.heap.size w0 w') : Rw w0 (l.set i (g, cs', T)) w' := by
  refine ⟨by rw [set_map l i g cs cs' T hi]; exact h.nd, ?_, ?_, hb⟩
  · intro r hr
    rcases mem_set_cases hr with rfl | ⟨j, _, hj⟩
    · exact h.ge (g, cs, T) (List.mem_of_getElem? hi)
    · exact h.ge _ (List.mem_of_getElem? hj)
  · intro r hr
    rcases mem_set_cases hr with rfl | ⟨j, hne, hj⟩
    · exact h1
    · rw [h2 _ (nodup_ne h.nd hi hj hne)]
      exact h.rows _ (List.mem_of_getElem? hj)
theorem Rw.put {w0 w : World} {l : List Blk} (h : Rw w0 l w) (i j : Nat) (v : Value) {g : Nat} {cs : Array Value} {T : TypeId} (hi : l[i]? = some (g, cs, T) := by rfl) : Rw w0 (l.set i (g, cs.setIfInBounds j v, T)) (w.setCell ⟨g, j, none⟩ v) :=
  h.change i _ hi (heap_setCell_same w g j cs T v (h.row i hi)) (fun _ hk => heap_setCell_other _ _ _ _ hk) (h.bel.setCell (h.ge (g, cs, T) (List.mem_of_getElem? hi)) v)
theorem below_row {B g : Nat} {w0 w : World} (h : Below B w0 w) (hg : B ≤ g) (cs : Array Value) : Below B w0 (w.setRow g cs) :=
  ⟨h.os, h.tape, h.output, by simpa using h.size, fun k hk => by rw [setRow_other _ _ _ _ (by omega)]; exact h.block k hk⟩
theorem Rw.store {w0 w : World} {l : List Blk} (h : Rw w0 l w) (i : Nat) (cs' : Array Value) {g : Nat} {cs : Array Value} {T : TypeId} (hi : l[i]? = some (g, cs, T) := by rfl) : Rw w0 (l.set i (g, cs', T)) (w.setRow g cs') :=
  h.change i _ hi (setRow_heap _ _ _ _ _ _ (h.row i hi)) (fun _ hk => setRow_other _ _ _ _ hk) (below_row h.bel (h.ge (g, cs, T) (List.mem_of_getElem? hi)) _)

/-- Five words of 64 bits. -/
def rowF (f : Nat → Nat) : Array Value := #[.int .u64 (f 0 : Nat), .int .u64 (f 1 : Nat), .int .u64 (f 2 : Nat), .int .u64 (f 3 : Nat), .int .u64 (f 4 : Nat)]
theorem rowF_get (f : Nat → Nat) (j : Nat) (h : j < 5) : (rowF f)[j]? = some (.int .u64 (f j : Nat)) := by
  have : j = 0 ∨ j = 1 ∨ j = 2 ∨ j = 3 ∨ j = 4 := by omega
  rcases this with rfl | rfl | rfl | rfl | rfl <;> rfl
def upd (f : Nat → Nat) (j v : Nat) : Nat → Nat := fun i => if i = j then v else f i
theorem rowF_set (f : Nat → Nat) (j v : Nat) (h : j < 5) : (rowF f).setIfInBounds j (.int .u64 (v : Nat)) = rowF (upd f j v) := by
  have : j = 0 ∨ j = 1 ∨ j = 2 ∨ j = 3 ∨ j = 4 := by omega
  rcases this with rfl | rfl | rfl | rfl | rfl <;> rfl
theorem rowF_congr {f g : Nat → Nat} (h : ∀ i, i < 5 → f i = g i) : rowF f = rowF g := by
  unfold rowF
  rw [h 0 (by decide), h 1 (by decide), h 2 (by decide), h 3 (by decide), h 4 (by decide)]
theorem size_rowF (f : Nat → Nat) : (rowF f).size = 5 := rfl
theorem one_rowF (f : Nat → Nat) : (rowF f).all (·.oneCell') = true := by simp [rowF, Value.oneCell']
/-- A row in whose first j places the new values stand. -/
def prog (F G : Nat → Nat) (j : Nat) : Nat → Nat := fun i => if i < j then G i else F i
theorem prog_zero (F G : Nat → Nat) : prog F G 0 = F := by funext i; simp [prog]
theorem prog_at (F G : Nat → Nat) (j : Nat) : prog F G j j = F j := if_neg (Nat.lt_irrefl j)
theorem prog_set (F G : Nat → Nat) (j : Nat) : upd (prog F G j) j (G j) = prog F G (j + 1) := by
  funext i
  unfold upd prog
  by_cases e : i = j
  · subst e; rw [if_pos rfl, if_pos (Nat.lt_succ_self i)]
  · rw [if_neg e]
    by_cases h : i < j
    · rw [if_pos h, if_pos (by omega)]
    · rw [if_neg h, if_neg (by omega)]
theorem prog_end (F G : Nat → Nat) : rowF (prog F G 5) = rowF G := rowF_congr fun _ hi => if_pos hi
end MS
