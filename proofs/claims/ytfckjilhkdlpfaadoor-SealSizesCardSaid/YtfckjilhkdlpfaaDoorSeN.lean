/-
  The law SealBoxes.
-/
import Derived.Test.YtfckjilhkdlpfaaDoorSeM
namespace Go.Proofs.YtfckjilhkdlpfaaDoor
open Go.RowKit MS

set_option maxRecDepth 1000000 in
set_option maxHeartbeats 1000000 in
theorem boxes_law (p o s : ByteArray) (w : World) (K : Cls w) (G : Glob w) :
    Calls Tryd.prog 6 #[.string p, .string o, .string s] w fun e w' => e = .returned (.bool true) ∧ Below w.heap.size w w' := by
  have AWK := Lib.hid awake08
  have HK := Lib.hid K
  have HG := Lib.hid G
  clear K G
  by_cases hbig : 100 < p.size ∨ 100 < o.size ∨ 1024 < s.size
  · by_cases hp : 100 < p.size
    · have p1 : (p.size : Int) > 100 := by omega
      clear hp hbig
      go_enter Tryd.func6, Tryd.ntmps6
      go_wp2_with fail
      refine (AWK.out _ HK.out).mono ?_
      rintro e w1 ⟨rfl, hb1⟩
      go_wp2_with fail
      go_ret
      exact ⟨rfl, hb1⟩
    · have p1 : ¬ (p.size : Int) > 100 := by omega
      by_cases ho : 100 < o.size
      · have o1 : (o.size : Int) > 100 := by omega
        clear hp ho hbig
        go_enter Tryd.func6, Tryd.ntmps6
        go_wp2_with fail
        refine (AWK.out _ HK.out).mono ?_
        rintro e w1 ⟨rfl, hb1⟩
        go_wp2_with fail
        go_ret
        exact ⟨rfl, hb1⟩
      · have o1 : ¬ (o.size : Int) > 100 := by omega
        have s1 : (s.size : Int) > 1024 := by omega
        clear hp ho hbig
        go_enter Tryd.func6, Tryd.ntmps6
        go_wp2_with fail
        refine (AWK.out _ HK.out).mono ?_
        rintro e w1 ⟨rfl, hb1⟩
        go_wp2_with fail
        go_ret
        exact ⟨rfl, hb1⟩
  · have p1 : ¬ (p.size : Int) > 100 := by omega
    have o1 : ¬ (o.size : Int) > 100 := by omega
    have s1 : ¬ (s.size : Int) > 1024 := by omega
    by_cases h32 : p.size = 32 ∧ o.size = 32
    · obtain ⟨hp, ho⟩ := h32
      have p2 : ((p.size : Int) != 32) = false := by simp; omega
      have o2 : ((o.size : Int) != 32) = false := by simp; omega
      by_cases h7 : 700 < s.size
      · have s2 : (s.size : Int) > 700 := by omega
        have B := Lib.hid (fun w K => box_no3 p o s w K ho hp h7 (by omega))
        clear hbig hp ho h7
        go_enter Tryd.func6, Tryd.ntmps6
        go_wp2_with fail
        refine (B.out _ HK.out).mono ?_
        rintro e w1 ⟨rfl, hb1⟩
        have B1 := Lib.hid hb1
        have K1 := Lib.hid (HK.out.on B1.out)
        clear hb1
        go_wp2_with fail
        refine (AWK.out _ K1.out).mono ?_
        rintro e w2 ⟨rfl, hb2⟩
        go_wp2_with fail
        go_ret
        exact ⟨rfl, B1.out.trans (hb2.mono B1.out.size)⟩
      · have s2 : ¬ (s.size : Int) > 700 := by omega
        have B := Lib.hid (fun w K G => box_yes p o s w K G ho hp (by omega))
        have R := Lib.hid (fun w => rbox_any p o s w ho hp (by omega))
        clear hbig hp ho h7
        generalize boxB p o s = b at *
        go_enter Tryd.func6, Tryd.ntmps6
        go_wp2_with fail
        refine (B.out _ HK.out HG.out).mono ?_
        rintro e w1 ⟨rfl, hb1⟩
        have B1 := Lib.hid hb1
        clear hb1
        go_wp2_with fail
        refine (R.out _).mono ?_
        rintro e w2 ⟨rfl, hb2⟩
        have B2 := Lib.hid (B1.out.trans (hb2.mono B1.out.size))
        have K2 := Lib.hid (HK.out.on B2.out)
        clear hb2
        go_wp2_with fail
        refine (AWK.out _ K2.out).mono ?_
        rintro e w3 ⟨rfl, hb3⟩
        go_wp2_with fail
        go_ret
        exact ⟨rfl, B2.out.trans (hb3.mono B2.out.size)⟩
    · have B := Lib.hid (show ∀ w, Calls Tryd.prog 25 #[.string p, .string o, .string s] w fun e w' => e = .returned (.tuple #[.string ⟨#[]⟩, .int .i64 1]) ∧ Below w.heap.size w w' from fun w => by
        by_cases ho : o.size = 32
        · exact box_no2 p o s w ho (fun h => h32 ⟨h, ho⟩)
        · exact box_no1 p o s w ho)
      by_cases hp : p.size = 32
      · have p2 : ((p.size : Int) != 32) = false := by simp; omega
        have o2 : ((o.size : Int) != 32) = true := by simp; omega
        have p3 : (p.size : Int) = 32 := by omega
        have o3 : ¬ (o.size : Int) = 32 := by omega
        clear hbig h32 hp
        go_enter Tryd.func6, Tryd.ntmps6
        go_wp2_with fail
        refine (B.out _).mono ?_
        rintro e w1 ⟨rfl, hb1⟩
        have B1 := Lib.hid hb1
        have K1 := Lib.hid (HK.out.on B1.out)
        clear hb1
        go_wp2_with fail
        refine (AWK.out _ K1.out).mono ?_
        rintro e w2 ⟨rfl, hb2⟩
        go_wp2_with fail
        go_ret
        exact ⟨rfl, B1.out.trans (hb2.mono B1.out.size)⟩
      · have p2 : ((p.size : Int) != 32) = true := by simp; omega
        have p3 : ¬ (p.size : Int) = 32 := by omega
        clear hbig h32 hp
        go_enter Tryd.func6, Tryd.ntmps6
        go_wp2_with fail
        refine (B.out _).mono ?_
        rintro e w1 ⟨rfl, hb1⟩
        have B1 := Lib.hid hb1
        have K1 := Lib.hid (HK.out.on B1.out)
        clear hb1
        go_wp2_with fail
        refine (AWK.out _ K1.out).mono ?_
        rintro e w2 ⟨rfl, hb2⟩
        go_wp2_with fail
        go_ret
        exact ⟨rfl, B1.out.trans (hb2.mono B1.out.size)⟩
end Go.Proofs.YtfckjilhkdlpfaaDoor
