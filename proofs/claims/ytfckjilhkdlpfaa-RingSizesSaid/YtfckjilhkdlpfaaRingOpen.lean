/-
  An account that came in, opened; closed facts of the program for the rows.
-/
import Derived.Test.YtfckjilhkdlpfaaRows
import Derived.Test.YtfckjilhkdlpfaaRingB
import Derived.Test.YtfckjilhkdlpfaaOpen
namespace Go.Proofs.Ytfckjilhkdlpfaa
open Go.ChangeShapes Go.WideShapes Go.ChangeAt Go.RowKit MS

theorem ownP : ownKnob Try.prog.godebug = none := by kernel_rfl
theorem laidP : laidOutB Try.prog = true := by kernel_rfl
theorem cellsAcc : Try.prog.cellsOf 23 = 8 := by kernel_rfl

/-- An account that came in: its cells. -/
theorem open_acc {H : Type} {enc : TypeId × Value → H} {w : World} {base b0 : Nat} {spare : Nat → Bool} {held : Bool} {r : Reach} {v : Value} {d : DataW H} {p : List MemPlace}
    (hv : Value.okWide Try.prog w r b0 23 v) (h : DataW.Trod enc Try.prog w base spare held 23 v d p) : ∃ a : Acc, v = a.v := by
  obtain ⟨v0, v1, v2, v3, v4, v5, v6, v7, y0, y1, y2, y3, y4, y5, y6, y7, n, rfl, _, _, h0, h1, h2, h3, h4, h5, h6, h7⟩ := open_agg8 Try.underlying23 (by kernel_rfl) cellsAcc hv h
  obtain ⟨s0, e0, _, _⟩ := DataW.trod_string Try.underlying9 h0
  obtain ⟨s1, e1, _, _⟩ := DataW.trod_string Try.underlying9 h1
  obtain ⟨s2, e2, _, _⟩ := DataW.trod_int Try.underlying3 h2
  obtain ⟨s3, e3, _, _⟩ := DataW.trod_int Try.underlying3 h3
  obtain ⟨s4, e4, _, _⟩ := DataW.trod_string Try.underlying9 h4
  obtain ⟨s5, e5, _, _⟩ := DataW.trod_string Try.underlying9 h5
  obtain ⟨s6, e6, _, _⟩ := DataW.trod_string Try.underlying9 h6
  obtain ⟨s7, e7, _, _⟩ := DataW.trod_string Try.underlying9 h7
  simp only [List.cons.injEq, and_true] at e0 e1 e2 e3 e4 e5 e6 e7
  subst e0 e1 e2 e3 e4 e5 e6 e7
  exact ⟨⟨s0, s1, s2, s3, s4, s5, s6, s7⟩, rfl⟩

end Go.Proofs.Ytfckjilhkdlpfaa
