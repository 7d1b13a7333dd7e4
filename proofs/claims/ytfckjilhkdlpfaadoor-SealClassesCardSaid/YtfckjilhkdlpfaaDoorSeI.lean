/-
  The law SealClasses.
-/
import Derived.Test.YtfckjilhkdlpfaaDoorSeG
import Derived.Test.YtfckjilhkdlpfaaDoorSeL
namespace Go.Proofs.YtfckjilhkdlpfaaDoor
open Go.RowKit MS

set_option maxRecDepth 100000 in
set_option maxHeartbeats 1000000 in
theorem classes_ok (x : Nat) (hx : x < 65536) (y : Nat) (hy : y < 65536) (w : World) (h : laidMetH Tryd.prog laid3 w) :
    Calls Tryd.prog 7 #[.int .u16 (x : Int), .int .u16 (y : Int)] w fun e w' => e = .returned (.bool true) ∧ Below w.heap.size w w' := by
  have HC := Lib.hid (cls_of_laid h)
  have AWK := Lib.hid awake08
  obtain ⟨a, ha⟩ : ∃ a, x % 701 = a := ⟨_, rfl⟩
  have haL : a ≤ 700 := by omega
  have e1 : (x : Int) % 701 = (a : Int) := by omega
  have KA := Lib.hid (fun w C => class_any (a : Int) w C)
  have KB := Lib.hid (fun w C => class_any ((a : Int) + (y : Int)) w C)
  have KM := Lib.hid (fun w C => class_any (-1 - (a : Int)) w C)
  rw [clsI_nat a haL] at KA
  rw [clsI_big (-1 - (a : Int)) (.inl (by omega))] at KM
  have hge := clsN_ge a haL
  have hcs := clsN_cases a
  have hle := clsN_le a
  obtain ⟨b, hb⟩ : ∃ b, a + y = b := ⟨_, rfl⟩
  have eb : (a : Int) + (y : Int) = (b : Int) := by omega
  rw [eb] at KB
  have x0 : (0 : Int) ≤ (x : Int) := by omega
  have x1 : (x : Int) < 65536 := by omega
  have y0 : (0 : Int) ≤ (y : Int) := by omega
  have y1 : (y : Int) < 65536 := by omega
  have a0 : (0 : Int) ≤ (a : Int) := by omega
  have a1 : (a : Int) ≤ 700 := by omega
  have HD := Lib.hid (show b ≤ 700 → clsI (b : Nat) = clsN b ∧ clsN a ≤ clsN b from fun h7 => ⟨clsI_nat b h7, clsN_mono a b (by omega)⟩)
  have HD2 := Lib.hid (show 700 < b → clsI (b : Nat) = 0 from fun h7 => clsI_big _ (.inr (by omega)))
  obtain ⟨c, hc⟩ : ∃ c, clsN a = c := ⟨_, rfl⟩
  rw [hc] at KA hge hcs hle HD
  obtain ⟨d, hd⟩ : ∃ d, clsI (b : Nat) = d := ⟨_, rfl⟩
  rw [hd] at KB HD HD2
  have HGE := Lib.hid hge
  have HCS := Lib.hid hcs
  have HBY := Lib.hid (show (b : Int) < 70000 by omega)
  clear hx hy ha haL hge hcs hle hc hd hb h
  go_enter Tryd.func7, Tryd.ntmps7
  go_upto_region 2 with fail
  clear e1 eb x0 x1 y0 y1
  go_wp2_with fail
  refine (KA.out _ HC.out).mono ?_
  rintro e w1 ⟨rfl, rfl⟩
  go_wp2_with fail
  refine (KB.out _ HC.out).mono ?_
  rintro e w1 ⟨rfl, rfl⟩
  have c0 : ¬ (c : Int) < (a : Int) + 2 := by have := HGE.out; omega
  clear HGE
  by_cases h7 : b ≤ 700
  · obtain ⟨hd1, hd2⟩ := HD.out h7
    have b1 : (b : Int) ≤ 700 := by omega
    have d1 : (d : Int) ≥ (c : Int) := by omega
    clear HD HD2 h7 hd1 hd2 HBY
    rcases HCS.out with hcc | hcc | hcc | hcc
    · have q0 : ((c : Int) != 128) = false := by rw [hcc]; rfl
      clear hcc
      go_wp2_with fail
      refine (KM.out _ HC.out).mono ?_
      rintro e w1 ⟨rfl, rfl⟩
      go_wp2_with fail
      refine (AWK.out _ HC.out).mono ?_
      rintro e w1 ⟨rfl, hb1⟩
      go_wp2_with fail
      go_ret
      exact ⟨rfl, hb1⟩
    · have q0 : ((c : Int) != 128) = true := by rw [hcc]; rfl
      have q1 : ((c : Int) != 256) = false := by rw [hcc]; rfl
      clear hcc
      go_wp2_with fail
      refine (KM.out _ HC.out).mono ?_
      rintro e w1 ⟨rfl, rfl⟩
      go_wp2_with fail
      refine (AWK.out _ HC.out).mono ?_
      rintro e w1 ⟨rfl, hb1⟩
      go_wp2_with fail
      go_ret
      exact ⟨rfl, hb1⟩
    · have q0 : ((c : Int) != 128) = true := by rw [hcc]; rfl
      have q1 : ((c : Int) != 256) = true := by rw [hcc]; rfl
      have q2 : ((c : Int) != 512) = false := by rw [hcc]; rfl
      clear hcc
      go_wp2_with fail
      refine (KM.out _ HC.out).mono ?_
      rintro e w1 ⟨rfl, rfl⟩
      go_wp2_with fail
      refine (AWK.out _ HC.out).mono ?_
      rintro e w1 ⟨rfl, hb1⟩
      go_wp2_with fail
      go_ret
      exact ⟨rfl, hb1⟩
    · have q0 : ((c : Int) != 128) = true := by rw [hcc]; rfl
      have q1 : ((c : Int) != 256) = true := by rw [hcc]; rfl
      have q2 : ((c : Int) != 512) = true := by rw [hcc]; rfl
      have q3 : ((c : Int) != 704) = false := by rw [hcc]; rfl
      clear hcc
      go_wp2_with fail
      refine (KM.out _ HC.out).mono ?_
      rintro e w1 ⟨rfl, rfl⟩
      go_wp2_with fail
      refine (AWK.out _ HC.out).mono ?_
      rintro e w1 ⟨rfl, hb1⟩
      go_wp2_with fail
      go_ret
      exact ⟨rfl, hb1⟩
  · have b1 : ¬ (b : Int) ≤ 700 := by omega
    have b2 : (b : Int) > 700 := by omega
    have d1 : ((d : Int) == 0) = true := by rw [HD2.out (by omega)]; rfl
    clear HD HD2 h7 HBY
    rcases HCS.out with hcc | hcc | hcc | hcc
    · have q0 : ((c : Int) != 128) = false := by rw [hcc]; rfl
      clear hcc
      go_wp2_with fail
      refine (KM.out _ HC.out).mono ?_
      rintro e w1 ⟨rfl, rfl⟩
      go_wp2_with fail
      refine (AWK.out _ HC.out).mono ?_
      rintro e w1 ⟨rfl, hb1⟩
      go_wp2_with fail
      go_ret
      exact ⟨rfl, hb1⟩
    · have q0 : ((c : Int) != 128) = true := by rw [hcc]; rfl
      have q1 : ((c : Int) != 256) = false := by rw [hcc]; rfl
      clear hcc
      go_wp2_with fail
      refine (KM.out _ HC.out).mono ?_
      rintro e w1 ⟨rfl, rfl⟩
      go_wp2_with fail
      refine (AWK.out _ HC.out).mono ?_
      rintro e w1 ⟨rfl, hb1⟩
      go_wp2_with fail
      go_ret
      exact ⟨rfl, hb1⟩
    · have q0 : ((c : Int) != 128) = true := by rw [hcc]; rfl
      have q1 : ((c : Int) != 256) = true := by rw [hcc]; rfl
      have q2 : ((c : Int) != 512) = false := by rw [hcc]; rfl
      clear hcc
      go_wp2_with fail
      refine (KM.out _ HC.out).mono ?_
      rintro e w1 ⟨rfl, rfl⟩
      go_wp2_with fail
      refine (AWK.out _ HC.out).mono ?_
      rintro e w1 ⟨rfl, hb1⟩
      go_wp2_with fail
      go_ret
      exact ⟨rfl, hb1⟩
    · have q0 : ((c : Int) != 128) = true := by rw [hcc]; rfl
      have q1 : ((c : Int) != 256) = true := by rw [hcc]; rfl
      have q2 : ((c : Int) != 512) = true := by rw [hcc]; rfl
      have q3 : ((c : Int) != 704) = false := by rw [hcc]; rfl
      clear hcc
      go_wp2_with fail
      refine (KM.out _ HC.out).mono ?_
      rintro e w1 ⟨rfl, rfl⟩
      go_wp2_with fail
      refine (AWK.out _ HC.out).mono ?_
      rintro e w1 ⟨rfl, hb1⟩
      go_wp2_with fail
      go_ret
      exact ⟨rfl, hb1⟩
end Go.Proofs.YtfckjilhkdlpfaaDoor
