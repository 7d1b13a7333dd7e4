/-
  The laws SealPads, SealUnpads, SealClasses, over what awake hands back.
-/
import Derived.Test.YtfckjilhkdlpfaaDoorSeE
namespace Go.Proofs.YtfckjilhkdlpfaaDoor
open Go.RowKit MS

/-- Folder 08's awake. -/
def Awk08 : Prop := ∀ w, Cls w → Calls Tryd.prog 18 #[] w fun e w' => e = .returned (.bool true) ∧ Below w.heap.size w w'

set_option maxRecDepth 100000 in
set_option maxHeartbeats 1000000 in
theorem unpads_law (AW : Awk08) (s : ByteArray) (w : World) (C : Cls w) :
    Calls Tryd.prog 5 #[.string s] w fun e w' => e = .returned (.bool true) ∧ Below w.heap.size w w' := by
  have AWK := Lib.hid AW
  have HC := Lib.hid C
  clear AW C
  by_cases hb : 1024 < s.size
  · have s1 : (s.size : Int) > 1024 := by omega
    clear hb
    go_enter Tryd.func5, Tryd.ntmps5
    go_wp2_with fail
    refine (AWK.out _ HC.out).mono ?_
    rintro e w1 ⟨rfl, hb1⟩
    go_wp2_with fail
    go_ret
    exact ⟨rfl, hb1⟩
  · have s1 : ¬ (s.size : Int) > 1024 := by omega
    have U := Lib.hid (fun w C => unpad_any s w C (by omega))
    have R := Lib.hid (fun w => runpad_any s w (by omega))
    clear hb
    go_enter Tryd.func5, Tryd.ntmps5
    cases hu : unpadB s with
    | none =>
      rw [hu] at U R
      go_wp2_with fail
      refine (U.out _ HC.out).mono ?_
      rintro e w1 ⟨rfl, hb1⟩
      have B1 := Lib.hid hb1
      simp only [unpadV]
      go_wp2_with fail
      refine (R.out _).mono ?_
      rintro e w2 ⟨rfl, hb2⟩
      have B2 := Lib.hid (B1.out.trans (hb2.mono B1.out.size))
      have C2 := Lib.hid (HC.out.on B2.out)
      simp only [runpadV]
      clear hb1 hb2
      go_wp2_with fail
      refine (AWK.out _ C2.out).mono ?_
      rintro e w3 ⟨rfl, hb3⟩
      go_wp2_with fail
      go_ret
      exact ⟨rfl, B2.out.trans (hb3.mono B2.out.size)⟩
    | some t =>
      rw [hu] at U R
      go_wp2_with fail
      refine (U.out _ HC.out).mono ?_
      rintro e w1 ⟨rfl, hb1⟩
      have B1 := Lib.hid hb1
      simp only [unpadV]
      go_wp2_with fail
      refine (R.out _).mono ?_
      rintro e w2 ⟨rfl, hb2⟩
      have B2 := Lib.hid (B1.out.trans (hb2.mono B1.out.size))
      have C2 := Lib.hid (HC.out.on B2.out)
      simp only [runpadV]
      clear hb1 hb2
      go_wp2_with fail
      refine (AWK.out _ C2.out).mono ?_
      rintro e w3 ⟨rfl, hb3⟩
      go_wp2_with fail
      go_ret
      exact ⟨rfl, B2.out.trans (hb3.mono B2.out.size)⟩

set_option maxRecDepth 100000 in
set_option maxHeartbeats 1000000 in
theorem pads_law (AW : Awk08) (s : ByteArray) (n : Int) (w : World) (C : Cls w) :
    Calls Tryd.prog 4 #[.string s, .int .i64 n] w fun e w' => e = .returned (.bool true) ∧ Below w.heap.size w w' := by
  have AWK := Lib.hid AW
  have HC := Lib.hid C
  have K1 := Lib.hid (fun w C => class_any n w C)
  have K2 := Lib.hid (fun w => rclass_any n w)
  clear AW C
  by_cases hb : 1024 < s.size
  · have s1 : (s.size : Int) > 1024 := by omega
    clear hb
    go_enter Tryd.func4, Tryd.ntmps4
    go_wp2_with fail
    refine (AWK.out _ HC.out).mono ?_
    rintro e w1 ⟨rfl, hb1⟩
    go_wp2_with fail
    go_ret
    exact ⟨rfl, hb1⟩
  · have s1 : ¬ (s.size : Int) > 1024 := by omega
    by_cases h7 : 700 < s.size
    · have s2 : (s.size : Int) > 700 := by omega
      have P := Lib.hid (fun w C => pad_no s w C h7 (by omega))
      clear hb h7
      go_enter Tryd.func4, Tryd.ntmps4
      go_wp2_with fail
      refine (P.out _ HC.out).mono ?_
      rintro e w1 ⟨rfl, rfl⟩
      go_wp2_with fail
      refine (K1.out _ HC.out).mono ?_
      rintro e w1 ⟨rfl, rfl⟩
      go_wp2_with fail
      refine (K2.out _).mono ?_
      rintro e w1 ⟨rfl, rfl⟩
      go_wp2_with fail
      refine (AWK.out _ HC.out).mono ?_
      rintro e w3 ⟨rfl, hb3⟩
      go_wp2_with fail
      go_ret
      exact ⟨rfl, hb3⟩
    · have s2 : ¬ (s.size : Int) > 700 := by omega
      have P := Lib.hid (fun w C => pad_yes s w C (by omega))
      have HZ := size_spadB s (by omega)
      have HZ2 := clsN_le s.size
      have U := Lib.hid (fun w C => unpad_any (spadB s) w C (by omega))
      have R := Lib.hid (fun w => rpad_any s w (by omega))
      rw [unpad_pad s (by omega)] at U
      clear hb h7 HZ HZ2
      generalize spadB s = p at *
      go_enter Tryd.func4, Tryd.ntmps4
      go_wp2_with fail
      refine (P.out _ HC.out).mono ?_
      rintro e w1 ⟨rfl, hb1⟩
      have B1 := Lib.hid hb1
      have C1 := Lib.hid (HC.out.on B1.out)
      clear hb1
      go_wp2_with fail
      refine (K1.out _ C1.out).mono ?_
      rintro e w2 ⟨rfl, rfl⟩
      go_wp2_with fail
      refine (K2.out _).mono ?_
      rintro e w2 ⟨rfl, rfl⟩
      go_wp2_with fail
      refine (U.out _ C1.out).mono ?_
      rintro e w2 ⟨rfl, hb2⟩
      have B2 := Lib.hid (B1.out.trans (hb2.mono B1.out.size))
      simp only [unpadV]
      clear hb2
      go_wp2_with fail
      refine (R.out _).mono ?_
      rintro e w3 ⟨rfl, hb3⟩
      have B3 := Lib.hid (B2.out.trans (hb3.mono B2.out.size))
      have C3 := Lib.hid (HC.out.on B3.out)
      clear hb3
      go_wp2_with fail
      refine (AWK.out _ C3.out).mono ?_
      rintro e w4 ⟨rfl, hb4⟩
      go_wp2_with fail
      go_ret
      exact ⟨rfl, B3.out.trans (hb4.mono B3.out.size)⟩
end Go.Proofs.YtfckjilhkdlpfaaDoor
