/-
  What the texts of layers 8 and 13 stand on.
-/
import Derived.Test.YtfckjilhkdlpfaaDoorSealP
import Derived.Test.YtfckjilhkdlpfaaDoorByMk
import Derived.Test.YtfckjilhkdlpfaaDoorOwnF
import Derived.Test.YtfckjilhkdlpfaaDoorBQ
namespace Go.Proofs.YtfckjilhkdlpfaaDoor
end Go.Proofs.YtfckjilhkdlpfaaDoor
