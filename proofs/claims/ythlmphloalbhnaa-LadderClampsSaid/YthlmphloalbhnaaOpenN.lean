/-
  Opening an argument that is a number of fe.
-/
import Derived.Test.YthlmphloalbhnaaOpenArr
import Derived.Test.YthlmphloalbhnaaFeK
namespace Go.Proofs.Ythlmphloalbhnaa
open Go.ChangeShapes Go.WideShapes Go.ChangeAt Go.RowKit MS
theorem open_num {P : Program} {w : World} {base b0 : Nat} {spare : Nat → Bool} {held : Bool} {r : Reach} {t e : TypeId} {v : Value} {H : Type} {enc : TypeId × Value → H} {d : DataW H} {ps : List MemPlace}
    (ht : P.underlying t = some (.array 5 e)) (he : P.underlying e = some (.int .u64)) (hc : P.cellsOf e = 1) (hn : P.cellsOf t = 5)
    (hval : Value.okWide P w r b0 t v) (hd : DataW.Trod enc P w base spare held t v d ps) : ∃ x : N5, x.ok ∧ v = .agg (nvA x) := by
  obtain ⟨a, hs, hb, rfl⟩ := open_w64 ht he hc hn hval hd
  refine ⟨⟨a.getD 0 0, a.getD 1 0, a.getD 2 0, a.getD 3 0, a.getD 4 0⟩, ⟨hb 0, hb 1, hb 2, hb 3, hb 4⟩, ?_⟩
  congr 1
  apply Array.ext
  · simp [nvA, hs]
  · intro i h1 h2
    have hi : i < 5 := by simpa [hs] using h1
    have : i = 0 ∨ i = 1 ∨ i = 2 ∨ i = 3 ∨ i = 4 := by omega
    rcases this with rfl | rfl | rfl | rfl | rfl <;> simp [nvA, hs]
end Go.Proofs.Ythlmphloalbhnaa
