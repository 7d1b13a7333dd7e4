/-
  mailsackref08.Open, and the law SealOpens.
-/
import Derived.Test.YtfckjilhkdlpfaaGreatDoorSeX1
namespace Go.Proofs.YtfckjilhkdlpfaaGreatDoor
open Go.RowKit MS

set_option maxRecDepth 1000000 in
set_option maxHeartbeats 2000000 in
theorem ropen08_any (pr box : ByteArray) (w : World) (hp : pr.size = 32) (hs : box.size ≤ 10000) : Calls Tryz.prog 23 #[.string pr, .string box] w fun e w' => e = .returned (sopenV pr box) ∧ Below w.heap.size w w' := by
  by_cases h32 : box.size < 32
  · have b1 : (box.size : Int) < 32 := by omega
    have HR := Lib.hid (show sopenV pr box = .tuple #[.string ⟨#[]⟩, .int .i64 3] by rw [sopenV, if_pos h32])
    clear hp hs h32
    go_enter Tryz.func23, Tryz.ntmps23
    go_wp2_with fail
    go_ret2
    exact ⟨by rw [HR.out]; rfl, Below.refl _ _⟩
  · have b1 : ¬ (box.size : Int) < 32 := by omega
    have b2 : (32 : Int) ≤ (box.size : Int) := by omega
    have hoz : (box.extract 0 32).size = 32 := by rw [ByteArray.size_extract]; omega
    have hrz : (box.extract 32 box.size).size ≤ 10000 := by rw [ByteArray.size_extract]; omega
    have A := Lib.hid (fun w => rbase_any w)
    have C := Lib.hid (fun w => rpoint_any pr (box.extract 0 32) w hp hoz)
    have C2 := Lib.hid (fun w => rpoint_any pr baseB w hp size_baseB)
    have hx := size_xB pr (box.extract 0 32)
    have hy := size_xB pr baseB
    have HR := Lib.hid (show sopenV pr box = match boxO pr box with
      | none => .tuple #[.string ⟨#[]⟩, .int .i64 7]
      | some t => unpadV (unpadB t) by rw [sopenV, if_neg h32]; rfl)
    have D := Lib.hid (fun w => rkeys_any (xB pr (box.extract 0 32)) (box.extract 0 32) (xB pr baseB) w (by omega) (by omega) (by omega))
    rw [show bothB (xB pr (box.extract 0 32)) (box.extract 0 32 ++ xB pr baseB) = bothO pr box from rfl] at D
    have hbz : (bothO pr box).size = 44 := size_bothB _ _
    have hk1 : ((bothO pr box).extract 0 32).size = 32 := by rw [ByteArray.size_extract]; omega
    have hk2 : ((bothO pr box).extract 32 44).size = 12 := by rw [ByteArray.size_extract]; omega
    have O := Lib.hid (fun w => ropenA_any ((bothO pr box).extract 0 32) ((bothO pr box).extract 32 44) ⟨#[]⟩ (box.extract 32 box.size) w hk1 hk2 (by decide) (by omega))
    rw [show openA ((bothO pr box).extract 0 32) ((bothO pr box).extract 32 44) ⟨#[]⟩ (box.extract 32 box.size) = boxO pr box from rfl] at O
    have HT := Lib.hid (show ∀ t, boxO pr box = some t → t.size ≤ 100000 from fun t ht => by have := size_openA ht; omega)
    generalize boxO pr box = R at *
    generalize (bothO pr box).extract 0 32 = k1 at *
    generalize (bothO pr box).extract 32 44 = k2 at *
    generalize xB pr (box.extract 0 32) = x at *
    generalize xB pr baseB = y at *
    clear hp hs h32 hoz hrz hx hy hbz hk1 hk2
    go_enter Tryz.func23, Tryz.ntmps23
    go_wp2_with fail
    refine (C.out _).mono ?_
    rintro e w1 ⟨rfl, hb⟩
    have B1 := Lib.hid hb
    clear hb
    go_wp2_with fail
    refine (A.out _).mono ?_
    rintro e w2 ⟨rfl, hb⟩
    have B2 := Lib.hid (B1.out.trans (hb.mono B1.out.size))
    clear hb
    go_wp2_with fail
    refine (C2.out _).mono ?_
    rintro e w3 ⟨rfl, hb⟩
    have B3 := Lib.hid (B2.out.trans (hb.mono B2.out.size))
    clear hb
    go_wp2_with fail
    refine (D.out _).mono ?_
    rintro e w4 ⟨rfl, hb⟩
    have B4 := Lib.hid (B3.out.trans (hb.mono B3.out.size))
    clear hb
    go_wp2_with fail
    refine (O.out _).mono ?_
    rintro e w5 ⟨rfl, hb⟩
    have B5 := Lib.hid (B4.out.trans (hb.mono B4.out.size))
    clear hb
    cases R with
    | none =>
      simp only [ropenV]
      go_wp2_with fail
      go_ret2
      exact ⟨by rw [HR.out]; rfl, B5.out⟩
    | some t =>
      have N := Lib.hid (fun w => runpad_any t w (HT.out t rfl))
      simp only [ropenV]
      go_wp2_with fail
      refine (N.out _).mono ?_
      rintro e w6 ⟨rfl, hb⟩
      have B6 := Lib.hid (B5.out.trans (hb.mono B5.out.size))
      clear hb
      have HR2 := Lib.hid HR.out
      cases hu : unpadB t with
      | none =>
        simp only [runpadV]
        go_wp2_with fail
        go_ret2
        exact ⟨by rw [HR2.out, hu]; rfl, B6.out⟩
      | some u =>
        simp only [runpadV]
        go_wp2_with fail
        go_ret2
        exact ⟨by rw [HR2.out, hu]; rfl, B6.out⟩
theorem sopenV_form (pr box : ByteArray) : ∃ s f, sopenV pr box = .tuple #[.string s, .int .i64 f] := by
  unfold sopenV
  split
  · exact ⟨_, _, rfl⟩
  · split
    · exact ⟨_, _, rfl⟩
    · rename_i t _
      cases unpadB t with
      | none => exact ⟨_, _, rfl⟩
      | some u => exact ⟨_, _, rfl⟩
set_option maxRecDepth 1000000 in
set_option maxHeartbeats 1000000 in
theorem opens_a (p b : ByteArray) (w : World) (K : Cls w) (hp : 100 < p.size) :
    Calls Tryz.prog 6 #[.string p, .string b] w fun e w' => e = .returned (.bool true) ∧ Below w.heap.size w w' := by
  have AWK := Lib.hid awake08
  have HK := Lib.hid K
  have p1 : (p.size : Int) > 100 := by omega
  clear hp K
  go_enter Tryz.func6, Tryz.ntmps6
  go_wp2_with fail
  refine (AWK.out _ HK.out).mono ?_
  rintro e w1 ⟨rfl, hb1⟩
  go_wp2_with fail
  go_ret
  exact ⟨rfl, hb1⟩
set_option maxRecDepth 1000000 in
set_option maxHeartbeats 1000000 in
theorem opens_b (p b : ByteArray) (w : World) (K : Cls w) (hp : p.size ≤ 100) (hb : 1024 < b.size) :
    Calls Tryz.prog 6 #[.string p, .string b] w fun e w' => e = .returned (.bool true) ∧ Below w.heap.size w w' := by
  have AWK := Lib.hid awake08
  have HK := Lib.hid K
  have p1 : ¬ (p.size : Int) > 100 := by omega
  have b1 : (b.size : Int) > 1024 := by omega
  clear hp hb K
  go_enter Tryz.func6, Tryz.ntmps6
  go_wp2_with fail
  refine (AWK.out _ HK.out).mono ?_
  rintro e w1 ⟨rfl, hb1⟩
  go_wp2_with fail
  go_ret
  exact ⟨rfl, hb1⟩
set_option maxRecDepth 1000000 in
set_option maxHeartbeats 1000000 in
theorem opens_c (p b : ByteArray) (w : World) (K : Cls w) (hp : p.size ≤ 100) (hb : b.size ≤ 1024) (h32 : p.size ≠ 32) :
    Calls Tryz.prog 6 #[.string p, .string b] w fun e w' => e = .returned (.bool true) ∧ Below w.heap.size w w' := by
  have AWK := Lib.hid awake08
  have HK := Lib.hid K
  have p1 : ¬ (p.size : Int) > 100 := by omega
  have b1 : ¬ (b.size : Int) > 1024 := by omega
  have p2 : ((p.size : Int) != 32) = true := by simp; omega
  have p3 : ¬ (p.size : Int) = 32 := by omega
  have O := Lib.hid (fun w => sopen_no p b w h32)
  clear hp hb h32 K
  go_enter Tryz.func6, Tryz.ntmps6
  go_wp2_with fail
  refine (O.out _).mono ?_
  rintro e w1 ⟨rfl, hb1⟩
  have B1 := Lib.hid hb1
  have K1 := Lib.hid (HK.out.on B1.out)
  clear hb1
  go_wp2_with fail
  refine (AWK.out _ K1.out).mono ?_
  rintro e w2 ⟨rfl, hb2⟩
  go_wp2_with fail
  go_ret
  exact ⟨rfl, B1.out.trans (hb2.mono B1.out.size)⟩
set_option maxRecDepth 1000000 in
set_option maxHeartbeats 1000000 in
theorem opens_d (p b : ByteArray) (w : World) (K : Cls w) (G : Glob w) (h32 : p.size = 32) (hb : b.size ≤ 1024) :
    Calls Tryz.prog 6 #[.string p, .string b] w fun e w' => e = .returned (.bool true) ∧ Below w.heap.size w w' := by
  have AWK := Lib.hid awake08
  have HK := Lib.hid K
  have HG := Lib.hid G
  have p1 : ¬ (p.size : Int) > 100 := by omega
  have b1 : ¬ (b.size : Int) > 1024 := by omega
  have p2 : ((p.size : Int) != 32) = false := by simp; omega
  have p3 : (p.size : Int) = 32 := by omega
  have O := Lib.hid (fun w K G => sopen_any p b w K G h32 (by omega))
  have RO := Lib.hid (fun w => ropen08_any p b w h32 (by omega))
  obtain ⟨s, f, hv⟩ := sopenV_form p b
  rw [hv] at O RO
  clear h32 hb hv K G
  go_enter Tryz.func6, Tryz.ntmps6
  go_wp2_with fail
  refine (O.out _ HK.out HG.out).mono ?_
  rintro e w1 ⟨rfl, hb1⟩
  have B1 := Lib.hid hb1
  clear hb1
  go_wp2_with fail
  refine (RO.out _).mono ?_
  rintro e w2 ⟨rfl, hb2⟩
  have B2 := Lib.hid (B1.out.trans (hb2.mono B1.out.size))
  have K2 := Lib.hid (HK.out.on B2.out)
  clear hb2
  go_wp2_with fail
  refine (AWK.out _ K2.out).mono ?_
  rintro e w3 ⟨rfl, hb3⟩
  go_wp2_with fail
  go_ret
  exact ⟨rfl, B2.out.trans (hb3.mono B2.out.size)⟩
theorem opens_ok (p b : ByteArray) (w : World) (h : laidMetH Tryz.prog laid3 w) :
    Calls Tryz.prog 6 #[.string p, .string b] w fun e w' => e = .returned (.bool true) ∧ Below w.heap.size w w' := by
  have K := cls_of_laid h
  have G := glob_of_laid3 h
  by_cases hp : 100 < p.size
  · exact opens_a p b w K hp
  · by_cases hb : 1024 < b.size
    · exact opens_b p b w K (by omega) hb
    · by_cases h32 : p.size = 32
      · exact opens_d p b w K G h32 (by omega)
      · exact opens_c p b w K (by omega) (by omega) h32
end Go.Proofs.YtfckjilhkdlpfaaGreatDoor
