/-
  mailsackref03.Power: the walk.
-/
import Derived.Test.YthlmphloalbhnaaRFi
import Derived.Test.YthlmphloalbhnaaPowP
namespace Go.Proofs.Ythlmphloalbhnaa
open Go.RowKit MS

set_option maxRecDepth 1000000 in
set_option maxHeartbeats 2000000 in
theorem rfpower_any (u : Nat) (va : Value) (ba : Nat) (w : World) (ha : DS w ba va 16 u) (hu : u < Q') :
    Calls Try.prog 29 #[va] w fun e w' => Below w.heap.size w w' ∧ ∃ r, e = .returned r ∧ DS w' 0 r 16 (u ^ E21 % Q') := by
  have HA := Lib.hid ha
  have HU := Lib.hid (Nat.mod_eq_of_lt hu)
  clear ha hu
  go_enter Try.func29, Try.ntmps29
  go_wp2_with fail
  refine (rfsmall_any 1 (by decide) w).mono ?_
  rintro e w1 ⟨hb1, r1, rfl, hd1⟩
  have R0 := Lib.hid (show DS w1 0 r1 16 (powA u 255) ∧ Below w.heap.size w w1 from ⟨by rw [powA_top]; exact hd1, hb1⟩)
  clear hb1 hd1
  go_wp2_with fail
  go_loopw [3, 4] (fun x i wr => ∃ d : Nat, d ≤ 255 ∧ i = .int .i64 ((d : Int) - 1) ∧ DS wr 0 x 16 (powA u d) ∧ Below w.heap.size w wr) (fun _ i _ => (intOf i + 1).toNat)
  case atStart => exact ⟨255, by decide, rfl, R0.out.1, R0.out.2⟩
  case round =>
    obtain ⟨d, hd, rfl, hds, hb⟩ := hrel
    have HD := Lib.hid hds
    have HB := Lib.hid hb
    have HDD := Lib.hid hd
    clear hds hb hd R0
    cases d with
    | zero =>
      have HE := Lib.hid (powA_end u)
      go_wp2_with fail
      go_ret
      exact ⟨HB.out, _, rfl, by have := HD.out; rw [HE.out] at this; exact this⟩
    | succ d =>
      have e1 : ((d + 1 : Nat) : Int) - 1 = (d : Int) := by omega
      rw [e1]
      have j1 : (d : Int) ≥ 0 := by omega
      have j2 : (d : Int) ≤ 254 := by have := HDD.out; omega
      go_wp2_with fail
      refine (rfmul_any _ _ _ _ _ _ _ HD.out HD.out).mono ?_
      rintro e w2 ⟨hb2, r2, rfl, hd2⟩
      have B2 := Lib.hid (HB.out.trans (hb2.mono HB.out.size))
      have A2 := Lib.hid (HA.out.on B2.out)
      have D2 := Lib.hid hd2
      clear hb2 hd2 HB e1
      by_cases h24 : d = 2 ∨ d = 4
      · have HP := Lib.hid (powA_sq u d (by have := HDD.out; omega) h24)
        rcases h24 with h | h
        · have q2 : ((d : Int) != 2) = false := by simp; omega
          have q3 : (d : Int) = 2 := by omega
          clear h
          go_wp2_with fail
          go_roundw
          case rel => exact ⟨d, by have := HDD.out; omega, by go_num, by have := D2.out; rw [HP.out] at this; exact this, B2.out⟩
          case measure => simp [intOf]; omega
        · have q2 : ((d : Int) != 2) = true := by simp; omega
          have q3 : ¬ (d : Int) = 2 := by omega
          have q4 : ((d : Int) != 4) = false := by simp; omega
          have q5 : (d : Int) = 4 := by omega
          clear h
          go_wp2_with fail
          go_roundw
          case rel => exact ⟨d, by have := HDD.out; omega, by go_num, by have := D2.out; rw [HP.out] at this; exact this, B2.out⟩
          case measure => simp [intOf]; omega
      · have HP := Lib.hid (powA_sqm u d (by have := HDD.out; omega) h24)
        have q2 : ((d : Int) != 2) = true := by simp; omega
        have q3 : ¬ (d : Int) = 2 := by omega
        have q4 : ((d : Int) != 4) = true := by simp; omega
        have q5 : ¬ (d : Int) = 4 := by omega
        clear h24
        go_wp2_with fail
        refine (rfmul_any _ _ _ _ _ _ _ D2.out A2.out).mono ?_
        rintro e w3 ⟨hb3, r3, rfl, hd3⟩
        have B3 := Lib.hid (B2.out.trans (hb3.mono B2.out.size))
        have D3 := Lib.hid (show DS w3 0 r3 16 (powA u d) from by rw [← HP.out, HU.out]; exact hd3)
        clear hb3 hd3 D2 A2 B2
        go_wp2_with fail
        go_roundw
        case rel => exact ⟨d, by have := HDD.out; omega, by go_num, D3.out, B3.out⟩
        case measure => simp [intOf]
end Go.Proofs.Ythlmphloalbhnaa
