/-
  mailsacklaw02.MacSame, MacSymm: the walks.
-/
import Derived.Test.YtkbfflnjbafamaaDoorMacS
import Derived.Lib.SmallJoins
namespace Go.Proofs.YtkbfflnjbafamaaDoor
open Go.RowKit MS

theorem ba_beq {a b : ByteArray} (h : ¬ a = b) : (a.toList == b.toList) = false := by
  rw [ByteArray.toList_eq, ByteArray.toList_eq, beq_eq_false_iff_ne]
  intro e
  exact h (ls_inj e)

set_option maxHeartbeats 800000 in
theorem macsame_any (a b : ByteArray) (w : World) (G : Glob w) :
    Calls Tryd.prog 9 #[.string a, .string b] w fun e w' => e = .returned (.bool true) ∧ Below w.heap.size w w' := by
  have A := Lib.hid (fun w G => awake02_any w G)
  have HG := Lib.hid G
  clear G
  by_cases h1 : a.size > 4096
  · have t1 : decide ((a.size : Int) > 4096) = true := by simp; omega
    go_enter Tryd.func9, Tryd.ntmps9
    go_wp2_with fail
    refine (A.out _ HG.out).mono ?_
    rintro e w1 ⟨rfl, hb1⟩
    go_wp2_with fail
    go_ret
    exact ⟨rfl, hb1⟩
  · have t1 : decide ((a.size : Int) > 4096) = false := by simp; omega
    by_cases h2 : b.size > 4096
    · have t2 : decide ((b.size : Int) > 4096) = true := by simp; omega
      go_enter Tryd.func9, Tryd.ntmps9
      go_wp2_with fail
      refine (A.out _ HG.out).mono ?_
      rintro e w1 ⟨rfl, hb1⟩
      go_wp2_with fail
      go_ret
      exact ⟨rfl, hb1⟩
    · have t2 : decide ((b.size : Int) > 4096) = false := by simp; omega
      have S1 := Lib.hid (fun w => same_any a b w (by omega))
      have S2 := Lib.hid (fun w => same_any a a w (by omega))
      by_cases hab : a = b
      · subst hab
        rw [decide_eq_true rfl] at S1 S2
        go_enter Tryd.func9, Tryd.ntmps9
        go_wp2_with fail
        refine (S1.out _).mono ?_
        rintro e w1 ⟨rfl, hb1⟩
        go_wp2_with fail
        refine (S2.out _).mono ?_
        rintro e w2 ⟨rfl, hb2⟩
        have B2 := Lib.hid (hb1.trans (hb2.mono hb1.size))
        clear hb1 hb2
        go_wp2_with fail
        refine (A.out _ (HG.out.on B2.out)).mono ?_
        rintro e w3 ⟨rfl, hb3⟩
        go_wp2_with fail
        go_ret
        exact ⟨rfl, B2.out.trans (hb3.mono B2.out.size)⟩
      · have hbeq : (a.toList == b.toList) = false := ba_beq hab
        rw [decide_eq_false hab] at S1
        rw [decide_eq_true rfl] at S2
        go_enter Tryd.func9, Tryd.ntmps9
        go_wp2_with fail
        refine (S1.out _).mono ?_
        rintro e w1 ⟨rfl, hb1⟩
        go_wp2_with fail
        refine (S2.out _).mono ?_
        rintro e w2 ⟨rfl, hb2⟩
        have B2 := Lib.hid (hb1.trans (hb2.mono hb1.size))
        clear hb1 hb2
        go_wp2_with fail
        refine (A.out _ (HG.out.on B2.out)).mono ?_
        rintro e w3 ⟨rfl, hb3⟩
        go_wp2_with fail
        go_ret
        exact ⟨rfl, B2.out.trans (hb3.mono B2.out.size)⟩

theorem app_eq (a b : ByteArray) : a ++ b = a ↔ b = ⟨#[]⟩ := by
  constructor
  · intro h
    have : (a ++ b).size = a.size := by rw [h]
    rw [ByteArray.size_append] at this
    apply ls_inj
    have h2 : (ls b).length = 0 := by rw [length_ls]; omega
    rw [List.eq_nil_of_length_eq_zero h2]
    rfl
  · rintro rfl
    apply ls_inj
    rw [ls_append]
    simp [ls]

set_option maxHeartbeats 800000 in
theorem macsymm_any (a b : ByteArray) (w : World) (G : Glob w) :
    Calls Tryd.prog 11 #[.string a, .string b] w fun e w' => e = .returned (.bool true) ∧ Below w.heap.size w w' := by
  have A := Lib.hid (fun w G => awake02_any w G)
  have HG := Lib.hid G
  clear G
  by_cases h1 : a.size > 4096
  · have t1 : decide ((a.size : Int) > 4096) = true := by simp; omega
    go_enter Tryd.func11, Tryd.ntmps11
    go_wp2_with fail
    refine (A.out _ HG.out).mono ?_
    rintro e w1 ⟨rfl, hb1⟩
    go_wp2_with fail
    go_ret
    exact ⟨rfl, hb1⟩
  · have t1 : decide ((a.size : Int) > 4096) = false := by simp; omega
    by_cases h2 : b.size > 4096
    · have t2 : decide ((b.size : Int) > 4096) = true := by simp; omega
      go_enter Tryd.func11, Tryd.ntmps11
      go_wp2_with fail
      refine (A.out _ HG.out).mono ?_
      rintro e w1 ⟨rfl, hb1⟩
      go_wp2_with fail
      go_ret
      exact ⟨rfl, hb1⟩
    · have t2 : decide ((b.size : Int) > 4096) = false := by simp; omega
      have hsum : a.size + b.size ≤ 9223372036854775807 := by omega
      have hsz : (a ++ b).size ≤ 100000 := by rw [ByteArray.size_append]; omega
      have S1 := Lib.hid (fun w => same_any a b w (by omega))
      have S2 := Lib.hid (fun w => same_any b a w (by omega))
      have S3 := Lib.hid (fun w => same_any (a ++ b) (a ++ b) w hsz)
      have S4 := Lib.hid (fun w => same_any (a ++ b) a w hsz)
      rw [decide_eq_true rfl] at S3
      rw [show decide (b = a) = decide (a = b) by rw [Bool.eq_iff_iff, decide_eq_true_eq, decide_eq_true_eq]; exact eq_comm] at S2
      rw [show decide (a ++ b = a) = decide (b = ⟨#[]⟩) by rw [Bool.eq_iff_iff, decide_eq_true_eq, decide_eq_true_eq]; exact app_eq a b] at S4
      generalize decide (a = b) = x at S1 S2
      clear hsz
      go_enter Tryd.func11, Tryd.ntmps11
      go_wp2_with fail
      refine (S1.out _).mono ?_
      rintro e w1 ⟨rfl, hb1⟩
      go_wp2_with fail
      refine (S2.out _).mono ?_
      rintro e w2 ⟨rfl, hb2⟩
      have B2 := Lib.hid (hb1.trans (hb2.mono hb1.size))
      clear hb1 hb2
      go_wp2_with fail
      refine (S3.out _).mono ?_
      rintro e w3 ⟨rfl, hb3⟩
      have B3 := Lib.hid (B2.out.trans (hb3.mono B2.out.size))
      clear hb3
      go_wp2_with fail
      refine (S4.out _).mono ?_
      rintro e w4 ⟨rfl, hb4⟩
      have B4 := Lib.hid (B3.out.trans (hb4.mono B3.out.size))
      clear hb4
      by_cases hbe : b = ⟨#[]⟩
      · subst hbe
        go_wp2_with fail
        refine (A.out _ (HG.out.on B4.out)).mono ?_
        rintro e w5 ⟨rfl, hb5⟩
        go_wp2_with fail
        go_ret
        exact ⟨rfl, B4.out.trans (hb5.mono B4.out.size)⟩
      · have hbeq : b.toList.isEmpty = false := by
          rw [ByteArray.toList_eq, List.isEmpty_eq_false_iff]
          intro e
          exact hbe (ls_inj (show ls b = ls ⟨#[]⟩ from e))
        rw [decide_eq_false hbe]
        go_wp2_with fail
        refine (A.out _ (HG.out.on B4.out)).mono ?_
        rintro e w5 ⟨rfl, hb5⟩
        go_wp2_with fail
        go_ret
        exact ⟨rfl, B4.out.trans (hb5.mono B4.out.size)⟩
end Go.Proofs.YtkbfflnjbafamaaDoor
