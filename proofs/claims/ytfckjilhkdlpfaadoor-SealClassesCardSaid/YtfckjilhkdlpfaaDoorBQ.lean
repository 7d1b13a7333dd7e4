/-
  Regions that draw their order and hold calls which make memory: quiet in the class of the worlds that have grown from the region's own.
-/
import Derived.Test.YtfckjilhkdlpfaaDoorQTail
import Derived.Below
namespace MS
open Go Go.RowKit
/-- A world grown from w: what was there is as it was. -/
def BW (w : World) := {x : World // Below w.heap.size w x}
instance (w : World) : Nonempty (BW w) := ⟨⟨w, Below.refl _ _⟩⟩
section
variable {P : Program}
theorem wp_region_below {id : Nat} {Q : Exit → Act → World → Prop} {a : Act} {w : World} {l : List Oper} (hm : P.follows .mixedOrders = true) (hB : Region.lexB .any l.toArray = true)
    (h : wpQuiet P l.toArray (fun w' => ∃ p : BW w, w' = p.1) (fun a' => ∀ w', (∃ p : BW w, w' = p.1) → Q .normal a' w') l a) : (Code.region id l.toArray true).wp P Q a w :=
  wp_region_quiet (C := fun w' => ∃ p : BW w, w' = p.1) hm hB ⟨⟨w.drew, (Below.refl _ _).drew⟩, rfl⟩ (by simpa using h)
theorem wp_region_below_tail {id : Nat} {Q : Exit → Act → World → Prop} {a : Act} {w : World} {l : List Oper} (n : Nat) (hm : P.follows .mixedOrders = true) (hB : Region.lexTailB .any l.toArray n = true)
    (h : wpQuiet P l.toArray (fun w' => ∃ p : BW w, w' = p.1) (fun a' => ∀ w', (∃ p : BW w, w' = p.1) → wpList P l.toArray Q (l.drop n) a' w') (l.take n) a) : (Code.region id l.toArray true).wp P Q a w :=
  wp_region_quiet_tail n _ hm hB ⟨⟨w.drew, (Below.refl _ _).drew⟩, rfl⟩ h
theorem calls_below {f : FuncId} {args : Array Value} {w : World} {p : BW w} {v : Value} (h : Calls P f args p.1 fun e w' => e = .returned v ∧ Below p.1.heap.size p.1 w') :
    Calls P f args p.1 fun e w'' => e = .returned v ∧ ∃ q : BW w, w'' = q.1 :=
  h.mono fun _ w'' ⟨he, hb⟩ => ⟨he, ⟨w'', p.2.trans (hb.mono p.2.size)⟩, rfl⟩
end
end MS
