/-
  What the rows of layer 8 list: the tables of sha and seal's classes; the door's own heap meets it.
-/
import Derived.Test.YtfckjilhkdlpfaaDoorRows
import Derived.Test.YtfckjilhkdlpfaaDoorSeA
import Derived.ProofKit
import Derived.LaidMore
import Derived.Stop.Joined
import Derived.Lib.LaidTab
import Derived.Stop.LaidErr
namespace Go.Proofs.YtfckjilhkdlpfaaDoor
open Go.RowKit MS

def laid3 : List (String × DataW Unit) := [("mailsack/sha.initial", Rows.laid_mailsack_sha_initial), ("mailsack/sha.rounds", Rows.laid_mailsack_sha_rounds), ("mailsack/seal.classes", Rows.laid_mailsack_seal_classes)]
theorem own03 : ownKnob Tryd.prog.godebug = none := by kernel_rfl
theorem gCls : Tryd.prog.globalNamed "mailsack/seal.classes" = some 0 := by kernel_rfl
theorem tCls : (Tryd.prog.globals[0]?).map (·.type) = some 64 := by kernel_rfl
def zC : List Int := [128, 256, 512, 704]
theorem cls_of_tab {W : World} (h : Lib.TabIs Tryd.prog W "mailsack/seal.classes" .i64 zC) : Cls W := by
  unfold Lib.TabIs World.var? at h
  rw [gCls] at h
  simp only [Option.bind_some] at h
  split at h
  · rename_i cs t fr hh
    exact ⟨⟨t, fr, by rw [hh, Option.some.inj h]; rfl⟩⟩
  · cases h
theorem cls_of_laid {W : World} (h : laidMetH Tryd.prog laid3 W) : Cls W := by
  rw [MakeChecks.laidMetH_plain _ _ _ (by kernel_rfl)] at h
  have h1 : laidMet Tryd.prog (("mailsack/sha.rounds", Rows.laid_mailsack_sha_rounds) :: [("mailsack/seal.classes", Rows.laid_mailsack_seal_classes)]) W := _root_.Go.laidMet.tail h
  have h2 : laidMet Tryd.prog (("mailsack/seal.classes", Lib.tabData .i64 zC) :: []) W := _root_.Go.laidMet.tail h1
  exact cls_of_tab (Lib.tabIs_of_head gCls tCls Tryd.underlying64 Tryd.underlying3 (by kernel_rfl) (by kernel_rfl) h2)
theorem door_met3 (os : Os) (args : Array Value) : laidMetH Tryd.prog laid3 ((World.doorLaid Tryd.prog 24 os).forCall (fun _ _ => 0) ⟨#[], args, []⟩).memory :=
  laidMetH_of_parts3 (fuel := 8) (laidMet_of_run' 8 (by kernel_rfl) (by kernel_rfl)) (by kernel_rfl) (by kernel_rfl)
end Go.Proofs.YtfckjilhkdlpfaaDoor
