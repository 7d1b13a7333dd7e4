/-
  Folder 08's awake, and the law SealClasses.
-/
import Derived.Test.YtfckjilhkdlpfaaDoorSeF
namespace Go.Proofs.YtfckjilhkdlpfaaDoor
open Go.RowKit MS

theorem clamp_noS (s : ByteArray) (w : World) (hs : s.size ≠ 32) : Calls Tryd.prog 56 #[.string s] w fun e w' => e = .returned (.tuple #[.string ⟨#[]⟩, .bool false]) ∧ Below w.heap.size w w' := by
  have h1 : ¬ (s.size : Int) = 32 := by omega
  have h2 : ((s.size : Int) != 32) = true := by simp; omega
  clear hs
  go_enter Tryd.func56, Tryd.ntmps56
  go_wp2_with fail
  go_ret2
  exact ⟨rfl, Below.refl _ _⟩
set_option maxRecDepth 1000000 in
set_option maxHeartbeats 1000000 in
theorem point_noS (s u : ByteArray) (w : World) (hs : s.size ≠ 32) : Calls Tryd.prog 41 #[.string s, .string u] w fun e w' => e = .returned (.tuple #[.string ⟨#[]⟩, .bool false]) ∧ Below w.heap.size w w' := by
  have C := Lib.hid (fun w => clamp_noS s w hs)
  clear hs
  go_enter Tryd.func41, Tryd.ntmps41
  go_wp2_with fail
  refine (C.out _).mono ?_
  rintro e w1 ⟨rfl, hb⟩
  have B := Lib.hid hb
  clear hb
  go_wp2_with fail
  go_ret2
  exact ⟨rfl, B.out⟩
set_option maxRecDepth 1000000 in
set_option maxHeartbeats 1000000 in
theorem box_no1 (p o s : ByteArray) (w : World) (ho : o.size ≠ 32) : Calls Tryd.prog 25 #[.string p, .string o, .string s] w fun e w' => e = .returned (.tuple #[.string ⟨#[]⟩, .int .i64 1]) ∧ Below w.heap.size w w' := by
  have C := Lib.hid (fun w => point_noS o p w ho)
  clear ho
  go_enter Tryd.func25, Tryd.ntmps25
  go_wp2_with fail
  refine (C.out _).mono ?_
  rintro e w1 ⟨rfl, hb⟩
  have B := Lib.hid hb
  clear hb
  go_wp2_with fail
  go_ret2
  exact ⟨rfl, B.out⟩

theorem awk_pad : ∃ p t : ByteArray, (∀ w, Cls w → Calls Tryd.prog 19 #[.string ⟨#[109, 97, 105, 108]⟩] w fun e w' => e = .returned (.tuple #[.string p, .int .i64 0]) ∧ Below w.heap.size w w') ∧
    (∀ w, Cls w → Calls Tryd.prog 22 #[.string p] w fun e w' => e = .returned (.tuple #[.string t, .int .i64 0]) ∧ Below w.heap.size w w') ∧ (p.size : Int) = 128 ∧ t.toList = [109, 97, 105, 108] := by
  have hl : (ByteArray.mk #[109, 97, 105, 108]).toList = [109, 97, 105, 108] := by rw [ByteArray.toList_eq]
  have h4 : (ByteArray.mk #[109, 97, 105, 108]).size = 4 := by decide
  generalize ByteArray.mk #[109, 97, 105, 108] = m at *
  have hz : (spadB m).size = 128 := by rw [size_spadB m (by omega), h4, clsN, if_pos (by decide)]
  refine ⟨spadB m, m, fun w C => pad_yes m w C (by omega), fun w C => ?_, by omega, hl⟩
  have U := unpad_any (spadB m) w C (by omega)
  rw [unpad_pad m (by omega)] at U
  exact U
theorem awk_box : ∀ w, Calls Tryd.prog 25 #[.string ⟨#[115, 104, 111, 114, 116]⟩, .string ⟨#[]⟩, .string ⟨#[]⟩] w fun e w' => e = .returned (.tuple #[.string ⟨#[]⟩, .int .i64 1]) ∧ Below w.heap.size w w' :=
  fun w => box_no1 _ _ _ w (by decide)
theorem awk_class : ∀ w, Cls w → Calls Tryd.prog 20 #[.int .i64 127] w fun e w' => e = .returned (.int .i64 256) ∧ w = w' := by
  intro w C
  have K := class_any 127 w C
  rw [show clsI 127 = 256 by rw [clsI, if_neg (by decide), clsN, if_neg (by decide), if_pos (by decide)]] at K
  exact K

set_option maxRecDepth 1000000 in
set_option maxHeartbeats 400000 in
theorem awake08 : Awk08 := by
  intro w C
  obtain ⟨p, t, P0, U0, z1, z2⟩ := awk_pad
  have P := Lib.hid P0
  have U := Lib.hid U0
  have B := Lib.hid awk_box
  have K := Lib.hid awk_class
  have HC := Lib.hid C
  clear P0 U0 C
  go_enter Tryd.func18, Tryd.ntmps18
  go_wp2_with fail
  refine (P.out _ HC.out).mono ?_
  rintro e w1 ⟨rfl, hb1⟩
  have B1 := Lib.hid hb1
  have C1 := Lib.hid (HC.out.on B1.out)
  clear hb1
  go_wp2_with fail
  refine (U.out _ C1.out).mono ?_
  rintro e w2 ⟨rfl, hb2⟩
  have B2 := Lib.hid (B1.out.trans (hb2.mono B1.out.size))
  clear hb2
  go_wp2_with fail
  refine (B.out _).mono ?_
  rintro e w3 ⟨rfl, hb3⟩
  have B3 := Lib.hid (B2.out.trans (hb3.mono B2.out.size))
  have C3 := Lib.hid (HC.out.on B3.out)
  clear hb3
  go_wp2_with fail
  refine (K.out _ C3.out).mono ?_
  rintro e w4 ⟨rfl, rfl⟩
  go_wp2_with fail
  go_ret
  exact ⟨rfl, B3.out⟩
end Go.Proofs.YtfckjilhkdlpfaaDoor
