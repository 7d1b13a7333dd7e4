/-
  The base of folders 08 and 13 in the great door's seat: the contracts of the lower layers.
-/
import Derived.Test.YtfckjilhkdlpfaaGreatDoorZZ8
import Derived.Deep.DeepCutAuto
import Derived.OwnWalk
import Derived.Laws.AppendOwn
