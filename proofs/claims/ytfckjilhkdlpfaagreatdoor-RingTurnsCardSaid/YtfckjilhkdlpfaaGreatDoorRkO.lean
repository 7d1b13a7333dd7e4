/-
  What the rows of folder 13 list: the tables of sha; accounts and what is drawn, as they come in.
-/
import Derived.Test.YtfckjilhkdlpfaaGreatDoorRows
import Derived.Test.YtfckjilhkdlpfaaGreatDoorRkA
import Derived.Test.YtfckjilhkdlpfaaGreatDoorOpen
import Derived.ProofKit
import Derived.LaidMore
import Derived.Stop.Joined
import Derived.Lib.LaidTab
import Derived.Stop.LaidErr
namespace Go.Proofs.YtfckjilhkdlpfaaGreatDoor
open Go.ChangeShapes Go.WideShapes Go.ChangeAt Go.RowKit MS

def laid2 : List (String × DataW Unit) := [("mailsack/sha.initial", Rows.laid_mailsack_sha_initial), ("mailsack/sha.rounds", Rows.laid_mailsack_sha_rounds)]
theorem own02 : ownKnob Tryz.prog.godebug = none := by kernel_rfl
theorem gInit2 : Tryz.prog.globalNamed "mailsack/sha.initial" = some 1 := by kernel_rfl
theorem gRnds2 : Tryz.prog.globalNamed "mailsack/sha.rounds" = some 2 := by kernel_rfl
theorem tInit2 : (Tryz.prog.globals[1]?).map (·.type) = some 116 := by kernel_rfl
theorem tRnds2 : (Tryz.prog.globals[2]?).map (·.type) = some 139 := by kernel_rfl
def zI2 : List Int := IV.toList.map wv
def zK2 : List Int := KT.toList.map wv
theorem row_of2 (a : Array W32) (zs : List Int) (h : zs = a.toList.map wv) : (zs.map fun z => Value.int .u32 z).toArray = rowW a := by
  subst h
  apply Array.toList_inj.1
  simp [rowW]
theorem heap_of_tab2 {W : World} {name : String} {g : Nat} {a : Array W32} {zs : List Int} (hg : Tryz.prog.globalNamed name = some g) (h : Lib.TabIs Tryz.prog W name .u32 zs) (hz : zs = a.toList.map wv) :
    ∃ t fr, W.heap[g]? = some (.cells (rowW a) t fr) := by
  unfold Lib.TabIs World.var? at h
  rw [hg] at h
  simp only [Option.bind_some] at h
  split at h
  · rename_i cs t fr hh
    exact ⟨t, fr, by rw [hh, Option.some.inj h, row_of2 a zs hz]⟩
  · cases h
theorem glob_of_laid2 {W : World} (h : laidMetH Tryz.prog laid2 W) : Glob W := by
  rw [MakeChecks.laidMetH_plain _ _ _ (by kernel_rfl)] at h
  have h0 : laidMet Tryz.prog (("mailsack/sha.initial", Lib.tabData .u32 zI2) :: [("mailsack/sha.rounds", Rows.laid_mailsack_sha_rounds)]) W := h
  have h1 : laidMet Tryz.prog (("mailsack/sha.rounds", Lib.tabData .u32 zK2) :: []) W := _root_.Go.laidMet.tail h
  exact ⟨heap_of_tab2 gInit2 (Lib.tabIs_of_head gInit2 tInit2 Tryz.underlying116 Tryz.underlying86 (by kernel_rfl) (by kernel_rfl) h0) rfl,
    heap_of_tab2 gRnds2 (Lib.tabIs_of_head gRnds2 tRnds2 Tryz.underlying139 Tryz.underlying86 (by kernel_rfl) (by kernel_rfl) h1) rfl⟩
theorem door_met2 (os : Os) (args : Array Value) : laidMetH Tryz.prog laid2 ((World.doorLaid Tryz.prog 24 os).forCall (fun _ _ => 0) ⟨#[], args, []⟩).memory :=
  laidMetH_of_parts3 (fuel := 8) (laidMet_of_run' 8 (by kernel_rfl) (by kernel_rfl)) (by kernel_rfl) (by kernel_rfl)

theorem cellsAcc : Tryz.prog.cellsOf 23 = 8 := by kernel_rfl
theorem cellsFre : Tryz.prog.cellsOf 25 = 4 := by kernel_rfl
set_option maxRecDepth 100000 in
/-- An account that came in: its cells. -/
theorem open_acc {H : Type} {enc : TypeId × Value → H} {w : World} {base b0 : Nat} {spare : Nat → Bool} {held : Bool} {r : Reach} {v : Value} {d : DataW H} {p : List MemPlace}
    (hv : Value.okWide Tryz.prog w r b0 23 v) (h : DataW.Trod enc Tryz.prog w base spare held 23 v d p) : ∃ a : Acc, v = a.v := by
  obtain ⟨v0, v1, v2, v3, v4, v5, v6, v7, y0, y1, y2, y3, y4, y5, y6, y7, n, rfl, _, _, h0, h1, h2, h3, h4, h5, h6, h7⟩ := open_agg8 Tryz.underlying23 (by kernel_rfl) cellsAcc hv h
  obtain ⟨s0, e0, _, _⟩ := DataW.trod_string Tryz.underlying9 h0
  obtain ⟨s1, e1, _, _⟩ := DataW.trod_string Tryz.underlying9 h1
  obtain ⟨s2, e2, _, _⟩ := DataW.trod_int Tryz.underlying3 h2
  obtain ⟨s3, e3, _, _⟩ := DataW.trod_int Tryz.underlying3 h3
  obtain ⟨s4, e4, _, _⟩ := DataW.trod_string Tryz.underlying9 h4
  obtain ⟨s5, e5, _, _⟩ := DataW.trod_string Tryz.underlying9 h5
  obtain ⟨s6, e6, _, _⟩ := DataW.trod_string Tryz.underlying9 h6
  obtain ⟨s7, e7, _, _⟩ := DataW.trod_string Tryz.underlying9 h7
  simp only [List.cons.injEq, and_true] at e0 e1 e2 e3 e4 e5 e6 e7
  subst e0 e1 e2 e3 e4 e5 e6 e7
  exact ⟨⟨s0, s1, s2, s3, s4, s5, s6, s7⟩, rfl⟩
set_option maxRecDepth 100000 in
/-- What is drawn, as it came in: its cells. -/
theorem open_fre {H : Type} {enc : TypeId × Value → H} {w : World} {base b0 : Nat} {spare : Nat → Bool} {held : Bool} {r : Reach} {v : Value} {d : DataW H} {p : List MemPlace}
    (hv : Value.okWide Tryz.prog w r b0 25 v) (h : DataW.Trod enc Tryz.prog w base spare held 25 v d p) : ∃ a : Fre, v = a.v := by
  obtain ⟨v0, v1, v2, v3, y0, y1, y2, y3, n, rfl, _, _, h0, h1, h2, h3⟩ := open_agg4x Tryz.underlying25 (by kernel_rfl) cellsFre hv h
  obtain ⟨s0, e0, _, _⟩ := DataW.trod_string Tryz.underlying9 h0
  obtain ⟨s1, e1, _, _⟩ := DataW.trod_string Tryz.underlying9 h1
  obtain ⟨s2, e2, _, _⟩ := DataW.trod_string Tryz.underlying9 h2
  obtain ⟨s3, e3, _, _⟩ := DataW.trod_int Tryz.underlying3 h3
  simp only [List.cons.injEq, and_true] at e0 e1 e2 e3
  subst e0 e1 e2 e3
  exact ⟨⟨s0, s1, s2, s3⟩, rfl⟩
end Go.Proofs.YtfckjilhkdlpfaaGreatDoor
