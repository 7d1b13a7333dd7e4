/-
  What the rows of layers 1 and 2 list: the two tables of sha, as the walks take them; the door's own heap meets it.
-/
import Derived.Test.YtkbfflnjbafamaaDoorRows
import Derived.Test.YtkbfflnjbafamaaDoorShaB
import Derived.ProofKit
import Derived.LaidMore
import Derived.Stop.Joined
import Derived.Lib.LaidTab
import Derived.Stop.LaidErr
namespace Go.Proofs.YtkbfflnjbafamaaDoor
open Go.RowKit MS

def laid2 : List (String × DataW Unit) := [("mailsack/sha.initial", Rows.laid_mailsack_sha_initial), ("mailsack/sha.rounds", Rows.laid_mailsack_sha_rounds)]
theorem own01 : ownKnob Tryd.prog.godebug = none := by kernel_rfl
theorem gInit : Tryd.prog.globalNamed "mailsack/sha.initial" = some 0 := by kernel_rfl
theorem gRnds : Tryd.prog.globalNamed "mailsack/sha.rounds" = some 1 := by kernel_rfl
theorem tInit : (Tryd.prog.globals[0]?).map (·.type) = some 26 := by kernel_rfl
theorem tRnds : (Tryd.prog.globals[1]?).map (·.type) = some 48 := by kernel_rfl
def zI : List Int := IV.toList.map wv
def zK : List Int := KT.toList.map wv
theorem row_of (a : Array W32) (zs : List Int) (h : zs = a.toList.map wv) : (zs.map fun z => Value.int .u32 z).toArray = rowW a := by
  subst h
  apply Array.toList_inj.1
  simp [rowW]
theorem heap_of_tab {W : World} {name : String} {g : Nat} {a : Array W32} {zs : List Int} (hg : Tryd.prog.globalNamed name = some g) (h : Lib.TabIs Tryd.prog W name .u32 zs) (hz : zs = a.toList.map wv) :
    ∃ t fr, W.heap[g]? = some (.cells (rowW a) t fr) := by
  unfold Lib.TabIs World.var? at h
  rw [hg] at h
  simp only [Option.bind_some] at h
  split at h
  · rename_i cs t fr hh
    exact ⟨t, fr, by rw [hh, Option.some.inj h, row_of a zs hz]⟩
  · cases h
theorem glob_of_laid {W : World} (h : laidMetH Tryd.prog laid2 W) : Glob W := by
  rw [MakeChecks.laidMetH_plain _ _ _ (by kernel_rfl)] at h
  have h0 : laidMet Tryd.prog (("mailsack/sha.initial", Lib.tabData .u32 zI) :: [("mailsack/sha.rounds", Rows.laid_mailsack_sha_rounds)]) W := h
  have h1 : laidMet Tryd.prog (("mailsack/sha.rounds", Lib.tabData .u32 zK) :: []) W := _root_.Go.laidMet.tail h
  exact ⟨heap_of_tab gInit (Lib.tabIs_of_head gInit tInit Tryd.underlying26 Tryd.underlying25 (by kernel_rfl) (by kernel_rfl) h0) rfl,
    heap_of_tab gRnds (Lib.tabIs_of_head gRnds tRnds Tryd.underlying48 Tryd.underlying25 (by kernel_rfl) (by kernel_rfl) h1) rfl⟩
theorem door_met (os : Os) (args : Array Value) : laidMetH Tryd.prog laid2 ((World.doorLaid Tryd.prog 19 os).forCall (fun _ _ => 0) ⟨#[], args, []⟩).memory :=
  laidMetH_of_parts3 (fuel := 8) (laidMet_of_run' 8 (by kernel_rfl) (by kernel_rfl)) (by kernel_rfl) (by kernel_rfl)
end Go.Proofs.YtkbfflnjbafamaaDoor
