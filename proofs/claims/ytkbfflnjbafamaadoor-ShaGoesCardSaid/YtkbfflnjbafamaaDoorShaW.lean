/-
  The fixed answer of layer 1.
-/
import Derived.Test.YtkbfflnjbafamaaDoorShaU
namespace Go.Proofs.YtkbfflnjbafamaaDoor
open Go.RowKit MS

set_option maxRecDepth 100000 in
theorem abc_hex : hexB (sumB (ByteArray.mk #[97, 98, 99])) = ByteArray.mk #[98, 97, 55, 56, 49, 54, 98, 102, 56, 102, 48, 49, 99, 102, 101, 97, 52, 49, 52, 49, 52, 48, 100, 101, 53, 100, 97, 101, 50, 50, 50, 51, 98, 48, 48, 51, 54, 49, 97, 51, 57, 54, 49, 55, 55, 97, 57, 99, 98, 52, 49, 48, 102, 102, 54, 49, 102, 50, 48, 48, 49, 53, 97, 100] := by
  decide +kernel
theorem size_sumB (s : ByteArray) : (sumB s).size = 32 := by
  rw [sumB, size_bs, length_dg]

set_option maxHeartbeats 400000 in
theorem awake01_any (w : World) (G : Glob w) :
    Calls Tryd.prog 16 #[] w fun e w' => e = .returned (.bool true) ∧ Below w.heap.size w w' := by
  have S := Lib.hid (fun w G => sum_any (ByteArray.mk #[97, 98, 99]) w (by decide) G)
  have X := Lib.hid (fun w => hex_any (sumB (ByteArray.mk #[97, 98, 99])) w (by rw [size_sumB]; decide))
  rw [abc_hex] at X
  generalize sumB (ByteArray.mk #[97, 98, 99]) = d at S X
  have HG := Lib.hid G
  clear G
  go_enter Tryd.func16, Tryd.ntmps16
  go_wp2_with fail
  refine (S.out _ HG.out).mono ?_
  rintro e w1 ⟨rfl, hb1⟩
  go_wp2_with fail
  refine (X.out _).mono ?_
  rintro e w2 ⟨rfl, hb2⟩
  go_wp2_with fail
  go_ret
  exact ⟨rfl, hb1.trans (hb2.mono hb1.size)⟩

set_option maxHeartbeats 400000 in
theorem shahex_any (s : ByteArray) (w : World) (G : Glob w) :
    Calls Tryd.prog 5 #[.string s] w fun e w' => e = .returned (.bool true) ∧ Below w.heap.size w w' := by
  have A := Lib.hid (fun w G => awake01_any w G)
  have HG := Lib.hid G
  clear G
  by_cases h : s.size > 4096
  · have t1 : decide ((s.size : Int) > 4096) = true := by simp; omega
    go_enter Tryd.func5, Tryd.ntmps5
    go_wp2_with fail
    refine (A.out _ HG.out).mono ?_
    rintro e w1 ⟨rfl, hb1⟩
    go_wp2_with fail
    go_ret
    exact ⟨rfl, hb1⟩
  · have X := Lib.hid (fun w => hex_any s w (by omega))
    have R := Lib.hid (fun w => rhex_any s w (by omega))
    go_enter Tryd.func5, Tryd.ntmps5
    go_wp2_with fail
    refine (X.out _).mono ?_
    rintro e w1 ⟨rfl, hb1⟩
    go_wp2_with fail
    refine (R.out _).mono ?_
    rintro e w2 ⟨rfl, hb2⟩
    have HB := Lib.hid (hb1.trans (hb2.mono hb1.size))
    clear hb1 hb2
    go_wp2_with fail
    refine (A.out _ (HG.out.on HB.out)).mono ?_
    rintro e w3 ⟨rfl, hb3⟩
    go_wp2_with fail
    go_ret
    exact ⟨rfl, HB.out.trans (hb3.mono HB.out.size)⟩
end Go.Proofs.YtkbfflnjbafamaaDoor
