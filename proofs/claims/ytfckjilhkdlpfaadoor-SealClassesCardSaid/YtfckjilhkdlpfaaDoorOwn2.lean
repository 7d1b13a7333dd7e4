/-
  Rows of the call's own in later worlds.
-/
import Derived.Test.YtfckjilhkdlpfaaDoorUtil
import Derived.Laws.AppendOwn
namespace MS
open Go Go.RowKit
theorem grown_of_below {w w' : World} (h : Below w.heap.size w w') : w.grownBy w' none := ⟨h.os, h.tape, h.output, h.size, fun k hk _ => h.block k hk⟩
theorem ownsRow_on {w w' : World} {base : Nat} {e : TypeId} {size : Nat} {v : Value} {n : Nat} {xs : List Value} (h : w.ownsRow base e size v n xs) (hb : Below w.heap.size w w') : w'.ownsRow base e size v n xs :=
  h.kept (grown_of_below hb) (by cases hv : v.ownBlock with | none => exact .inl rfl | some k => right; intro h; cases h)
def sliceLen : Value → Nat
  | .slice _ n _ => n
  | _ => 0
theorem own_cap {w : World} {base : Nat} {e : TypeId} {size : Nat} {g n cap : Nat} {xs : List Value} (h : w.ownsRow base e size (.slice (some ⟨g, 0, none⟩) n cap) n xs) : n ≤ cap ∧ cap ≤ maxLen ∧ base ≤ g ∧ g < w.heap.size := by
  obtain ⟨_, h | ⟨g', cap', cur, e1, hb, hg, hn, hm, _⟩⟩ := h
  · cases h.1
  · simp only [Value.slice.injEq, Option.some.injEq, Addr.mk.injEq] at e1
    obtain ⟨⟨rfl, _, _⟩, _, rfl⟩ := e1
    exact ⟨hn, hm, hb, (Array.getElem?_eq_some_iff.1 hg).1⟩
end MS
namespace Go.Proofs.YtfckjilhkdlpfaaDoor
open Go.RowKit MS
theorem conv_pre {B2 cap g N : Nat} {w : World} (l : List UInt8) (n : Nat) (hl : l.length = N) (hn : n ≤ N) (hown : w.ownsRow B2 5 1 (.slice (some ⟨g, 0, none⟩) N cap) N (vls l)) :
    (convert 62 9 (.slice (some ⟨g, 0, none⟩) n cap)).run Tryd.prog w = .ok (.string (bs (l.take n))) w := by
  refine run_bytes_to_string w 62 9 5 Tryd.underlying62 Tryd.underlying5 Tryd.underlying9 g 0 n cap (l.take n) (by simp; omega) (fun j h => ?_)
  have h' : j < n := by simp at h; omega
  have := hown.cellAt j (by omega)
  rw [Nat.zero_add, this]
  simp [vls, valB, show j < l.length by omega, List.getElem_take]
end Go.Proofs.YtfckjilhkdlpfaaDoor
