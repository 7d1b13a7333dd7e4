/-
  seal.Open: the walk.
-/
import Derived.Test.YtfckjilhkdlpfaaDoorSeK
namespace Go.Proofs.YtfckjilhkdlpfaaDoor
open Go.RowKit MS

/-- The key and the nonce of a box that is opened. -/
def bothO (pr box : ByteArray) : ByteArray := bothB (xB pr (box.extract 0 32)) (box.extract 0 32 ++ xB pr baseB)
/-- What is sealed in a box. -/
def boxO (pr box : ByteArray) : Option ByteArray := openA ((bothO pr box).extract 0 32) ((bothO pr box).extract 32 44) ⟨#[]⟩ (box.extract 32 box.size)
/-- What Open hands back, by a key of 32 bytes. -/
def sopenV (pr box : ByteArray) : Value :=
  if box.size < 32 then .tuple #[.string ⟨#[]⟩, .int .i64 3] else match boxO pr box with
  | none => .tuple #[.string ⟨#[]⟩, .int .i64 7]
  | some t => unpadV (unpadB t)

set_option maxRecDepth 1000000 in
set_option maxHeartbeats 1000000 in
theorem sopen_no (pr box : ByteArray) (w : World) (hp : pr.size ≠ 32) : Calls Tryd.prog 28 #[.string pr, .string box] w fun e w' => e = .returned (.tuple #[.string ⟨#[]⟩, .int .i64 1]) ∧ Below w.heap.size w w' := by
  have C := Lib.hid (fun w => public_no pr w hp)
  clear hp
  go_enter Tryd.func28, Tryd.ntmps28
  go_wp2_with fail
  refine (C.out _).mono ?_
  rintro e w1 ⟨rfl, hb⟩
  have B := Lib.hid hb
  clear hb
  go_wp2_with fail
  go_ret2
  exact ⟨rfl, B.out⟩
set_option maxRecDepth 1000000 in
set_option maxHeartbeats 2000000 in
theorem sopen_any (pr box : ByteArray) (w : World) (K : Cls w) (G : Glob w) (hp : pr.size = 32) (hs : box.size ≤ 10000) : Calls Tryd.prog 28 #[.string pr, .string box] w fun e w' => e = .returned (sopenV pr box) ∧ Below w.heap.size w w' := by
  have U := Lib.hid (fun w => public_yes pr w hp)
  by_cases h32 : box.size < 32
  · have b1 : (box.size : Int) < 32 := by omega
    have HR := Lib.hid (show sopenV pr box = .tuple #[.string ⟨#[]⟩, .int .i64 3] by rw [sopenV, if_pos h32])
    clear hp hs h32
    go_enter Tryd.func28, Tryd.ntmps28
    go_wp2_with fail
    refine (U.out _).mono ?_
    rintro e w1 ⟨rfl, hb⟩
    have B := Lib.hid hb
    clear hb
    go_wp2_with fail
    go_ret2
    exact ⟨by rw [HR.out]; rfl, B.out⟩
  · have b1 : ¬ (box.size : Int) < 32 := by omega
    have b2 : (32 : Int) ≤ (box.size : Int) := by omega
    have hoz : (box.extract 0 32).size = 32 := by rw [ByteArray.size_extract]; omega
    have hrz : (box.extract 32 box.size).size ≤ 10000 := by rw [ByteArray.size_extract]; omega
    have C := Lib.hid (fun w => point_yes pr (box.extract 0 32) w hp hoz)
    have hx := size_xB pr (box.extract 0 32)
    have hy := size_xB pr baseB
    have HR := Lib.hid (show sopenV pr box = match boxO pr box with
      | none => .tuple #[.string ⟨#[]⟩, .int .i64 7]
      | some t => unpadV (unpadB t) by rw [sopenV, if_neg h32])
    have D := Lib.hid (fun w G => derive_any (xB pr (box.extract 0 32)) (box.extract 0 32 ++ xB pr baseB) w (by omega) (by rw [ByteArray.size_append]; omega) G)
    rw [show bothB (xB pr (box.extract 0 32)) (box.extract 0 32 ++ xB pr baseB) = bothO pr box from rfl] at D
    have hbz : (bothO pr box).size = 44 := size_bothB _ _
    have hk1 : ((bothO pr box).extract 0 32).size = 32 := by rw [ByteArray.size_extract]; omega
    have hk2 : ((bothO pr box).extract 32 44).size = 12 := by rw [ByteArray.size_extract]; omega
    have O := Lib.hid (fun w => aopen_any ((bothO pr box).extract 0 32) ((bothO pr box).extract 32 44) ⟨#[]⟩ (box.extract 32 box.size) w hk1 hk2 (by decide) (by omega))
    rw [show openA ((bothO pr box).extract 0 32) ((bothO pr box).extract 32 44) ⟨#[]⟩ (box.extract 32 box.size) = boxO pr box from rfl] at O
    have HT := Lib.hid (show ∀ t, boxO pr box = some t → t.size ≤ 100000 from fun t ht => by have := size_openA ht; omega)
    generalize boxO pr box = R at *
    generalize (bothO pr box).extract 0 32 = k1 at *
    generalize (bothO pr box).extract 32 44 = k2 at *
    generalize xB pr (box.extract 0 32) = x at *
    generalize xB pr baseB = y at *
    have o1 : ((box.extract 0 32).size : Int) = 32 := by omega
    have y1 : (y.size : Int) = 32 := by omega
    have HK := Lib.hid K
    have HG := Lib.hid G
    clear hp hs h32 hoz hrz hx hy hbz hk1 hk2 K G
    go_enter Tryd.func28, Tryd.ntmps28
    go_wp2_with fail
    refine (U.out _).mono ?_
    rintro e w1 ⟨rfl, hb⟩
    have B := Lib.hid hb
    clear hb
    go_wp2_with fail
    go_quiet (fail)
    have B1 := Lib.hid (below_drewN B.out nq)
    generalize w1.drewN nq = w2 at B1 ⊢
    go_wp2_with fail
    refine (C.out _).mono ?_
    rintro e w3 ⟨rfl, hb⟩
    have B3 := Lib.hid (B1.out.trans (hb.mono B1.out.size))
    have G3 := Lib.hid (HG.out.on B3.out)
    clear hb
    go_wp2_with fail
    refine (D.out _ G3.out).mono ?_
    rintro e w4 ⟨rfl, hb⟩
    have B4 := Lib.hid (B3.out.trans (hb.mono B3.out.size))
    clear hb
    go_wp2_with fail
    refine (O.out _).mono ?_
    rintro e w5 ⟨rfl, hb⟩
    have B5 := Lib.hid (B4.out.trans (hb.mono B4.out.size))
    have K5 := Lib.hid (HK.out.on B5.out)
    clear hb
    cases R with
    | none =>
      simp only [openV]
      go_wp2_with fail
      go_ret2
      exact ⟨by rw [HR.out]; rfl, B5.out⟩
    | some t =>
      have N := Lib.hid (fun w K => unpad_any t w K (HT.out t rfl))
      simp only [openV]
      go_wp2_with fail
      refine (N.out _ K5.out).mono ?_
      rintro e w6 ⟨rfl, hb⟩
      have B6 := Lib.hid (B5.out.trans (hb.mono B5.out.size))
      clear hb
      have HR2 := Lib.hid HR.out
      cases hu : unpadB t with
      | none =>
        simp only [unpadV]
        go_wp2_with fail
        go_ret2
        exact ⟨by rw [HR2.out, hu]; rfl, B6.out⟩
      | some u =>
        simp only [unpadV]
        go_wp2_with fail
        go_ret2
        exact ⟨by rw [HR2.out, hu]; rfl, B6.out⟩
end Go.Proofs.YtfckjilhkdlpfaaDoor
