/-
  The tables of sha as the rows of layer 8 list them; the laws as the frames take them.
-/
import Derived.Test.YtfckjilhkdlpfaaDoorSeN
import Derived.Test.YtfckjilhkdlpfaaDoorSeL
namespace Go.Proofs.YtfckjilhkdlpfaaDoor
open Go.RowKit MS

theorem gInit3 : Tryd.prog.globalNamed "mailsack/sha.initial" = some 1 := by kernel_rfl
theorem gRnds3 : Tryd.prog.globalNamed "mailsack/sha.rounds" = some 2 := by kernel_rfl
theorem tInit3 : (Tryd.prog.globals[1]?).map (·.type) = some 103 := by kernel_rfl
theorem tRnds3 : (Tryd.prog.globals[2]?).map (·.type) = some 125 := by kernel_rfl
def zI3 : List Int := IV.toList.map wv
def zK3 : List Int := KT.toList.map wv
theorem row_of3 (a : Array W32) (zs : List Int) (h : zs = a.toList.map wv) : (zs.map fun z => Value.int .u32 z).toArray = rowW a := by
  subst h
  apply Array.toList_inj.1
  simp [rowW]
theorem heap_of_tab3 {W : World} {name : String} {g : Nat} {a : Array W32} {zs : List Int} (hg : Tryd.prog.globalNamed name = some g) (h : Lib.TabIs Tryd.prog W name .u32 zs) (hz : zs = a.toList.map wv) :
    ∃ t fr, W.heap[g]? = some (.cells (rowW a) t fr) := by
  unfold Lib.TabIs World.var? at h
  rw [hg] at h
  simp only [Option.bind_some] at h
  split at h
  · rename_i cs t fr hh
    exact ⟨t, fr, by rw [hh, Option.some.inj h, row_of3 a zs hz]⟩
  · cases h
theorem glob_of_laid3 {W : World} (h : laidMetH Tryd.prog laid3 W) : Glob W := by
  rw [MakeChecks.laidMetH_plain _ _ _ (by kernel_rfl)] at h
  have h0 : laidMet Tryd.prog (("mailsack/sha.initial", Lib.tabData .u32 zI3) :: [("mailsack/sha.rounds", Rows.laid_mailsack_sha_rounds), ("mailsack/seal.classes", Rows.laid_mailsack_seal_classes)]) W := h
  have h1 : laidMet Tryd.prog (("mailsack/sha.rounds", Lib.tabData .u32 zK3) :: [("mailsack/seal.classes", Rows.laid_mailsack_seal_classes)]) W := _root_.Go.laidMet.tail h
  exact ⟨heap_of_tab3 gInit3 (Lib.tabIs_of_head gInit3 tInit3 Tryd.underlying103 Tryd.underlying76 (by kernel_rfl) (by kernel_rfl) h0) rfl,
    heap_of_tab3 gRnds3 (Lib.tabIs_of_head gRnds3 tRnds3 Tryd.underlying125 Tryd.underlying76 (by kernel_rfl) (by kernel_rfl) h1) rfl⟩
theorem boxes_ok (p o s : ByteArray) (w : World) (h : laidMetH Tryd.prog laid3 w) :
    Calls Tryd.prog 6 #[.string p, .string o, .string s] w fun e w' => e = .returned (.bool true) ∧ Below w.heap.size w w' := boxes_law p o s w (cls_of_laid h) (glob_of_laid3 h)
end Go.Proofs.YtfckjilhkdlpfaaDoor
