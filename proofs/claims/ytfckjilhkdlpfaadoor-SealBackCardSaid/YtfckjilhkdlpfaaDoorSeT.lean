/-
  The law SealBack as the frame takes it.
-/
import Derived.Test.YtfckjilhkdlpfaaDoorSeS
import Derived.Test.YtfckjilhkdlpfaaDoorSeP
namespace Go.Proofs.YtfckjilhkdlpfaaDoor
open Go.RowKit MS
theorem back_ok (p o s : ByteArray) (w : World) (h : laidMetH Tryd.prog laid3 w) :
    Calls Tryd.prog 9 #[.string p, .string o, .string s] w fun e w' => e = .returned (.bool true) ∧ Below w.heap.size w w' := back_law p o s w (cls_of_laid h) (glob_of_laid3 h)
end Go.Proofs.YtfckjilhkdlpfaaDoor
