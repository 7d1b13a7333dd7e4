/-
  The base of folder 08: the contracts of the lower layers.
-/
import Derived.Test.YtfckjilhkdlpfaaDoorDZ8
import Derived.Deep.DeepCutAuto
import Derived.OwnWalk
import Derived.Laws.AppendOwn
