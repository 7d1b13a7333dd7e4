/-
  mailsacklaw02.MacRounds, MacFirst: the walks.
-/
import Derived.Test.YtkbfflnjbafamaaDoorMacP
import Derived.Test.YtkbfflnjbafamaaDoorMacL
namespace Go.Proofs.YtkbfflnjbafamaaDoor
open Go.RowKit MS

theorem mixl_getD2 (l : List UInt8) (f : Nat → UInt8) (p i : Nat) (h : i < l.length) (hp : i < p) : (mixl l f p).getD i 0 = l.getD i 0 ^^^ f i := by
  rw [List.getD_eq_getElem?_getD, mixl_get _ _ _ _ h, if_pos hp]
  rfl
theorem pwB_one (k s : ByteArray) : pwB k s 1 = macB k (s ++ bs [0, 0, 0, 1]) := rfl
theorem pwB_two (k s : ByteArray) (i : Nat) (h : i < 32) : (ls (pwB k s 2)).getD i 0 = (ls (pwB k s 1)).getD i 0 ^^^ (ls (macB k (pwB k s 1))).getD i 0 := by
  have := mixl_getD2 (pwX k s 0) (fun i => (ls (pwU k s 1)).getD i 0) 32 i (by rw [length_pwX]; exact h) h
  exact this
theorem pwB_three (k s : ByteArray) (i : Nat) (h : i < 32) : (ls (pwB k s 3)).getD i 0 = (ls (pwB k s 2)).getD i 0 ^^^ (ls (macB k (macB k (pwB k s 1)))).getD i 0 := by
  have := mixl_getD2 (pwX k s 1) (fun i => (ls (pwU k s 2)).getD i 0) 32 i (by rw [length_pwX]; exact h) h
  exact this

set_option maxRecDepth 100000 in
set_option maxHeartbeats 1000000 in
theorem macrounds_any (a b : ByteArray) (w : World) (G : Glob w) :
    Calls Tryd.prog 14 #[.string a, .string b] w fun e w' => e = .returned (.bool true) ∧ Below w.heap.size w w' := by
  have A := Lib.hid (fun w G => awake02_any w G)
  have HG := Lib.hid G
  clear G
  by_cases g0 : a.size > 128
  · have t0 : decide ((a.size : Int) > 128) = true := by simp; omega
    go_enter Tryd.func14, Tryd.ntmps14
    go_wp2_with fail
    refine (A.out _ HG.out).mono ?_
    rintro e w1 ⟨rfl, hb1⟩
    go_wp2_with fail
    go_ret
    exact ⟨rfl, hb1⟩
  have t0 : decide ((a.size : Int) > 128) = false := by simp; omega
  by_cases g1 : b.size > 128
  · have t1 : decide ((b.size : Int) > 128) = true := by simp; omega
    go_enter Tryd.func14, Tryd.ntmps14
    go_wp2_with fail
    refine (A.out _ HG.out).mono ?_
    rintro e w1 ⟨rfl, hb1⟩
    go_wp2_with fail
    go_ret
    exact ⟨rfl, hb1⟩
  have t1 : decide ((b.size : Int) > 128) = false := by simp; omega
  have P1 := Lib.hid (fun w G => pass_yes a b 1 w (by decide) (by decide) (by omega) (by omega) G)
  have P2 := Lib.hid (fun w G => pass_yes a b 2 w (by decide) (by decide) (by omega) (by omega) G)
  have P3 := Lib.hid (fun w G => pass_yes a b 3 w (by decide) (by decide) (by omega) (by omega) G)
  have M1 := Lib.hid (fun w G => mac_any a (pwB a b 1) w (by omega) (by rw [size_pwB]; decide) G)
  have M2 := Lib.hid (fun w G => mac_any a (macB a (pwB a b 1)) w (by omega) (by rw [size_macB]; decide) G)
  have E2 := Lib.hid (pwB_two a b)
  have E3 := Lib.hid (pwB_three a b)
  have s1 := size_pwB a b 1
  have s2 := size_pwB a b 2
  have s3 := size_pwB a b 3
  have s4 := size_macB a (pwB a b 1)
  have s5 := size_macB a (macB a (pwB a b 1))
  generalize macB a (macB a (pwB a b 1)) = v at *
  generalize macB a (pwB a b 1) = u at *
  generalize pwB a b 1 = one at *
  generalize pwB a b 2 = two at *
  generalize pwB a b 3 = three at *
  have z1 : ((one.size : Int) != 32) = false := by simp; omega
  have z2 : ((two.size : Int) != 32) = false := by simp; omega
  have z3 : ((three.size : Int) != 32) = false := by simp; omega
  have z4 : ((u.size : Int) != 32) = false := by simp; omega
  have z5 : ((v.size : Int) != 32) = false := by simp; omega
  have S1 := Lib.hid s1
  have S2 := Lib.hid s2
  have S3 := Lib.hid s3
  have S4 := Lib.hid s4
  have S5 := Lib.hid s5
  clear s1 s2 s3 s4 s5 g0 g1
  go_enter Tryd.func14, Tryd.ntmps14
  go_wp2_with fail
  refine (P1.out _ HG.out).mono ?_
  rintro e w1 ⟨rfl, hb⟩
  have B1 := Lib.hid hb
  clear hb
  go_wp2_with fail
  refine (P2.out _ (HG.out.on B1.out)).mono ?_
  rintro e w2 ⟨rfl, hb⟩
  have B2 := Lib.hid (B1.out.trans (hb.mono B1.out.size))
  clear hb
  go_wp2_with fail
  refine (P3.out _ (HG.out.on B2.out)).mono ?_
  rintro e w3 ⟨rfl, hb⟩
  have B3 := Lib.hid (B2.out.trans (hb.mono B2.out.size))
  clear hb
  go_wp2_with fail
  refine (M1.out _ (HG.out.on B3.out)).mono ?_
  rintro e w4 ⟨rfl, hb⟩
  have B4 := Lib.hid (B3.out.trans (hb.mono B3.out.size))
  clear hb
  go_wp2_with fail
  refine (M2.out _ (HG.out.on B4.out)).mono ?_
  rintro e w5 ⟨rfl, hb⟩
  have B5 := Lib.hid (B4.out.trans (hb.mono B4.out.size))
  clear hb
  clear P1 P2 P3 M1 M2
  go_wp2_with fail
  clear z1 z2 z3 z4 z5
  go_loopw [82] (fun i wr => ∃ j : Nat, j ≤ 32 ∧ i = .int .i64 j ∧ Below w.heap.size w wr) (fun i _ => 32 - (intOf i).toNat)
  case atStart => exact ⟨0, by omega, rfl, B5.out⟩
  case round =>
    obtain ⟨j, hj, rfl, hb⟩ := hrel
    have B6 := Lib.hid hb
    clear hb
    by_cases hlt : j < 32
    · have j1 : (j : Int) < 32 := by omega
      have j0 : (0 : Int) ≤ j := by omega
      have i1 : (j : Int) < one.size := by rw [S1.out]; omega
      have i2 : (j : Int) < two.size := by rw [S2.out]; omega
      have i3 : (j : Int) < three.size := by rw [S3.out]; omega
      have i4 : (j : Int) < u.size := by rw [S4.out]; omega
      have i5 : (j : Int) < v.size := by rw [S5.out]; omega
      have g1 := ls_get one j (by omega)
      have g2 := ls_get two j (by omega)
      have g3 := ls_get three j (by omega)
      have g4 := ls_get u j (by omega)
      have g5 := ls_get v j (by omega)
      have e2 := E2.out j hlt
      have e3 := E3.out j hlt
      generalize (ls one).getD j 0 = x1 at *
      generalize (ls two).getD j 0 = x2 at *
      generalize (ls three).getD j 0 = x3 at *
      generalize (ls u).getD j 0 = x4 at *
      generalize (ls v).getD j 0 = x5 at *
      have q2 : bits .xor .u8 (x1.toNat : Int) (x4.toNat : Int) = (x2.toNat : Int) := by rw [u8_xor_nat _ _ x1.toNat_lt x4.toNat_lt, e2, UInt8.toNat_xor]
      have q3 : bits .xor .u8 (x2.toNat : Int) (x5.toNat : Int) = (x3.toNat : Int) := by rw [u8_xor_nat _ _ x2.toNat_lt x5.toNat_lt, e3, UInt8.toNat_xor]
      have HLT := Lib.hid hlt
      clear e2 e3 hlt
      go_wp2_with fail
      go_quiet (fail)
      go_wp2_with fail
      go_roundw
      case rel => exact ⟨j + 1, HLT.out, by go_num, below_drewN B6.out _⟩
      case measure => simp [intOf]; omega
    · have j1 : ¬ ((j : Int) < 32) := by omega
      clear hlt
      go_wp2_with fail
      refine (A.out _ (HG.out.on B6.out)).mono ?_
      rintro e w7 ⟨rfl, hb⟩
      have B7 := Lib.hid (B6.out.trans (hb.mono B6.out.size))
      clear hb
      go_wp2_with fail
      go_ret
      exact ⟨rfl, B7.out⟩
end Go.Proofs.YtkbfflnjbafamaaDoor
