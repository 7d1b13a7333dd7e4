/-
  The laws SealPads, SealUnpads, as the frames take them.
-/
import Derived.Test.YtfckjilhkdlpfaaDoorSeG
import Derived.Test.YtfckjilhkdlpfaaDoorSeL
namespace Go.Proofs.YtfckjilhkdlpfaaDoor
open Go.RowKit MS
theorem pads_ok (s : ByteArray) (n : Int) (_ : -9223372036854775808 ≤ n ∧ n ≤ 9223372036854775807) (w : World) (h : laidMetH Tryd.prog laid3 w) :
    Calls Tryd.prog 4 #[.string s, .int .i64 n] w fun e w' => e = .returned (.bool true) ∧ Below w.heap.size w w' := pads_law awake08 s n w (cls_of_laid h)
theorem unpads_ok (s : ByteArray) (w : World) (h : laidMetH Tryd.prog laid3 w) :
    Calls Tryd.prog 5 #[.string s] w fun e w' => e = .returned (.bool true) ∧ Below w.heap.size w w' := unpads_law awake08 s w (cls_of_laid h)
end Go.Proofs.YtfckjilhkdlpfaaDoor
