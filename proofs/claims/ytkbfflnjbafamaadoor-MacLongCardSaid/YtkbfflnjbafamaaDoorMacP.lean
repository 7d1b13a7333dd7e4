/-
  mac.Password: the walk.
-/
import Derived.Test.YtkbfflnjbafamaaDoorMacD
import Derived.Test.YtkbfflnjbafamaaDoorOwnF
namespace Go.Proofs.YtkbfflnjbafamaaDoor
open Go.RowKit MS

theorem kB_idem (k : ByteArray) : kB (kB k) = kB k := by
  have := size_kB k
  rw [kB, if_neg (by omega)]
theorem macB_kB (k s : ByteArray) : macB (kB k) s = macB k s := by rw [macB, kB_idem]; rfl
/-- The n-th digest (from 0 on) of a password's key. -/
def pwU (k s : ByteArray) : Nat → ByteArray
  | 0 => macB k (s ++ bs [0, 0, 0, 1])
  | n + 1 => macB k (pwU k s n)
theorem size_pwU (k s : ByteArray) (n : Nat) : (pwU k s n).size = 32 := by
  cases n <;> exact size_macB _ _
/-- All of them up to the n-th, turned by each other. -/
def pwX (k s : ByteArray) : Nat → List UInt8
  | 0 => ls (pwU k s 0)
  | n + 1 => mixl (pwX k s n) (fun i => (ls (pwU k s (n + 1))).getD i 0) 32
theorem length_pwX (k s : ByteArray) (n : Nat) : (pwX k s n).length = 32 := by
  induction n with
  | zero => rw [pwX, length_ls, size_pwU]
  | succ n ih => rw [pwX, length_mixl, ih]
/-- A password's key. -/
def pwB (k s : ByteArray) (r : Nat) : ByteArray := bs (pwX k s (r - 1))
theorem size_pwB (k s : ByteArray) (r : Nat) : (pwB k s r).size = 32 := by rw [pwB, size_bs, length_pwX]

set_option maxHeartbeats 400000 in
theorem pass_no (k s : ByteArray) (r : Int) (w : World) (hr : r < 1 ∨ 64 < r) :
    Calls Tryd.prog 31 #[.string k, .string s, .int .i64 r] w fun e w' => e = .returned (.tuple #[.string ⟨#[]⟩, .int .i64 1]) ∧ Below w.heap.size w w' := by
  by_cases h : r < 1
  · go_enter Tryd.func31, Tryd.ntmps31
    go_wp2_with fail
    go_ret2
    exact ⟨rfl, Below.refl _ _⟩
  · have h2 : r > 64 := by omega
    go_enter Tryd.func31, Tryd.ntmps31
    go_wp2_with fail
    go_ret2
    exact ⟨rfl, Below.refl _ _⟩

theorem vls_set (l : List UInt8) (i : Nat) (x : UInt8) : (vls l).set i (.int .u8 (x.toNat : Int)) = vls (l.set i x) := by
  rw [vls, vls, List.map_set]
  rfl
theorem vls_get (l : List UInt8) (i : Nat) (h : i < l.length) : (vls l)[i]? = some (.int .u8 ((l.getD i 0).toNat : Int)) := by simp [vls, valB, h]

set_option maxRecDepth 100000 in
set_option maxHeartbeats 2000000 in
theorem pass_yes (k s : ByteArray) (r : Nat) (w : World) (hr0 : 1 ≤ r) (hr : r ≤ 64) (h1 : k.size ≤ 1000) (h2 : s.size ≤ 1000) (G : Glob w) :
    Calls Tryd.prog 31 #[.string k, .string s, .int .i64 r] w fun e w' => e = .returned (.tuple #[.string (pwB k s r), .int .i64 0]) ∧ Below w.heap.size w w' := by
  have HG := Lib.hid G
  have HR0 := Lib.hid hr0
  have HR := Lib.hid hr
  have r0 : (1 : Int) ≤ r := by omega
  have r1 : (r : Int) ≤ 64 := by omega
  have HP := Lib.hid (show pwB k s r = bs (pwX k s (r - 1)) from rfl)
  have M1 := Lib.hid (fun w G => mac_any (kB k) (s ++ bs [0, 0, 0, 1]) w (by have := size_kB k; omega) (by rw [ByteArray.size_append, size_bs]; simp only [List.length_cons, List.length_nil]; omega) G)
  have M2 := Lib.hid (fun n w G => mac_any (kB k) (pwU k s n) w (by have := size_kB k; omega) (by rw [size_pwU]; decide) G)
  rw [macB_kB] at M1
  simp only [macB_kB] at M2
  have hss : (s.size : Int) + 4 ≤ 1004 := by omega
  have hss2 : (s.size : Int) + ((bs [0, 0, 0, 1]).size : Int) ≤ 1004 := by rw [size_bs]; simp only [List.length_cons, List.length_nil]; omega
  have HKK := Lib.hid (show k.size > 64 → ∀ w, Glob w → Calls Tryd.prog 17 #[.string k] w fun e w' => e = .returned (.string (kB k)) ∧ Below w.heap.size w w' from fun h w G => by
    have := sum_any k w (by omega) G
    rwa [show sumB k = kB k by rw [kB, if_pos h]] at this)
  have HKN := Lib.hid (show ¬ k.size > 64 → kB k = k from fun h => by rw [kB, if_neg h])
  generalize hK : kB k = K at M1 M2 HKK HKN
  clear hK
  have HU := Lib.hid (show ∀ n, macB k (pwU k s n) = pwU k s (n + 1) from fun n => rfl)
  have HX := Lib.hid (show ∀ n, pwX k s (n + 1) = mixl (pwX k s n) (fun i => (ls (pwU k s (n + 1))).getD i 0) 32 from fun n => rfl)
  have HX0 := Lib.hid (show pwX k s 0 = ls (pwU k s 0) from rfl)
  have HXL := Lib.hid (fun n => length_pwX k s n)
  have HUL := Lib.hid (fun n => size_pwU k s n)
  rw [show macB k (s ++ bs [0, 0, 0, 1]) = pwU k s 0 from rfl] at M1
  generalize pwB k s r = R at HP
  generalize hpX : pwX k s = pX at HP HX HX0 HXL
  generalize hpU : pwU k s = pU at M1 M2 HU HX HX0 HUL
  clear hpX hpU hr0 hr h1 h2 G
  by_cases h : k.size > 64
  case' pos =>
    have t1 : decide ((k.size : Int) > 64) = true := by simp; omega
    have SK := Lib.hid (HKK.out h)
    clear h HKK HKN
    go_enter Tryd.func31, Tryd.ntmps31
    go_wp2_with fail
    refine (SK.out _ HG.out).mono ?_
    rintro e w1 ⟨rfl, hb1⟩
    have B1 := Lib.hid hb1
    clear hb1 SK
    go_wp2_with fail
    refine (M1.out _ (HG.out.on B1.out)).mono ?_
    rintro e w2 ⟨rfl, hb2⟩
    have B2 := Lib.hid (B1.out.trans (hb2.mono B1.out.size))
    clear hb2 B1
  case' neg =>
    have t1 : decide ((k.size : Int) > 64) = false := by simp; omega
    have e := HKN.out h
    subst e
    clear h HKK HKN
    go_enter Tryd.func31, Tryd.ntmps31
    go_wp2_with fail
    refine (M1.out _ HG.out).mono ?_
    rintro e w2 ⟨rfl, hb2⟩
    have B2 := Lib.hid hb2
    clear hb2
  all_goals
    have HS2 := Lib.hid (show w.heap.size ≤ w2.heap.size from B2.out.size)
    go_wp2_with (refine wpList_conv_own rfl (.tmp 26) 9 33 5 rfl (pU 0) rfl Tryd.underlying9 Tryd.underlying33 Tryd.underlying5 w.heap.size 32 (HUL.out 0) HS2.out (by decide) ?_)
    intro g cap w3 o3 hb3
    have O3 := Lib.hid (show ownsF w3 w.heap.size 5 (.slice (some ⟨g, 0, none⟩) 32 cap) 32 (vls (pX 0)) from by rw [HX0.out]; exact o3)
    have B3 := Lib.hid (B2.out.trans (hb3.mono B2.out.size))
    clear o3 hb3 HS2 B2
    go_wp2_with fail
    go_loopw [8, 30] (fun l i wr => ∃ j : Nat, j ≤ r - 1 ∧ i = .int .i64 j ∧ l = .string (pU j) ∧ ownsF wr w.heap.size 5 (.slice (some ⟨g, 0, none⟩) 32 cap) 32 (vls (pX j)) ∧ Below w.heap.size w wr) (fun _ i _ => r - (intOf i).toNat)
    case atStart => exact ⟨0, by omega, rfl, rfl, O3.out, B3.out⟩
    case round =>
      obtain ⟨j, hj, rfl, rfl, ho, hb⟩ := hrel
      have O4 := Lib.hid ho
      have B4 := Lib.hid hb
      have HJ := Lib.hid hj
      clear ho hb hj O3 B3
      by_cases hlt : j < r - 1
      · have j1 : (j : Int) < r - 1 := by omega
        have j0 : (0 : Int) ≤ j := by omega
        have HLT := Lib.hid hlt
        clear hlt
        go_wp2_with fail
        refine (M2.out j _ (HG.out.on B4.out)).mono ?_
        rintro e w5 ⟨rfl, hb5⟩
        rw [HU.out j]
        have O5 := Lib.hid (O4.out.on hb5)
        have B5 := Lib.hid (B4.out.trans (hb5.mono B4.out.size))
        have HXJ := Lib.hid (HX.out j)
        have HDL := Lib.hid (HUL.out (j + 1))
        have HLJ := Lib.hid (HXL.out j)
        generalize hD : pU (j + 1) = D at HXJ HDL ⊢
        have HD := Lib.hid hD
        clear hb5 hD O4 B4
        go_wp2_with fail
        obtain ⟨wo, rfl⟩ : ∃ wo : World, wo = wr := ⟨_, rfl⟩
        go_loopw [37] (fun i wr => ∃ p : Nat, p ≤ 32 ∧ i = .int .i64 p ∧ ownsF wr w.heap.size 5 (.slice (some ⟨g, 0, none⟩) 32 cap) 32 (vls (mixl (pX j) (fun i => (ls D).getD i 0) p)) ∧ Below w.heap.size w wr) (fun i _ => 32 - (intOf i).toNat)
        case atStart => exact ⟨0, by omega, rfl, by rw [mixl_zero]; exact O5.out, B5.out⟩
        case round =>
          obtain ⟨p, hp, rfl, ho, hb⟩ := hrel
          have O6 := Lib.hid ho
          have B6 := Lib.hid hb
          clear ho hb O5 B5
          by_cases hlt : p < 32
          · have p1 : (p : Int) < 32 := by omega
            have p0 : (0 : Int) ≤ p := by omega
            have hpd : p < D.size := by rw [HDL.out]; exact hlt
            have hpi : (p : Int) < D.size := by omega
            have HP9 := Lib.hid hlt
            have hml : (mixl (pX j) (fun i => (ls D).getD i 0) p).length = 32 := by rw [length_mixl, HLJ.out]
            have c1 := O6.out.cell p hlt
            rw [vls_get _ _ (by rw [hml]; exact hlt), mixl_getD _ _ _ (by rw [HLJ.out]; exact hlt)] at c1
            have f1 := O6.out.free p hlt
            have HST := Lib.hid (mixl_step (pX j) (fun i => (ls D).getD i 0) p (by rw [HLJ.out]; exact hlt))
            have hgd := ls_get D p hpd
            generalize (ls D).getD p 0 = y at HST hgd
            generalize (pX j).getD p 0 = x at c1 HST
            have HPUT := Lib.hid (O6.out.put p (.int .u8 ((x ^^^ y).toNat : Int)))
            rw [vls_set, HST.out] at HPUT
            have hxor : bits .xor .u8 (x.toNat : Int) (y.toNat : Int) = (((x ^^^ y).toNat : Nat) : Int) := by rw [u8_xor_nat _ _ x.toNat_lt y.toNat_lt, UInt8.toNat_xor]
            generalize x ^^^ y = z at HPUT hxor
            clear hml hlt
            go_wp2_with fail
            go_still_tail 9, (by kernel_rfl)
            go_wp2_with fail
            go_roundw
            case rel => exact ⟨p + 1, HP9.out, by go_num, HPUT.out.drew, (below_setCell B6.out O6.out.ge _).drew⟩
            case measure => simp [intOf]; omega
          · have p1 : ¬ ((p : Int) < 32) := by omega
            have hp32 : p = 32 := by omega
            have O7 := O6.out
            rw [hp32, ← HXJ.out] at O7
            have O8 := Lib.hid O7
            clear O7 hp32 hlt
            go_wp2_with fail
            go_roundw
            case rel => exact ⟨j + 1, HLT.out, by go_num, by rw [HD.out], O8.out, B6.out⟩
            case measure => simp [intOf]; omega
      · have j1 : ¬ ((j : Int) < r - 1) := by omega
        have hjr : j = r - 1 := by have := HJ.out; omega
        have O9 := O4.out
        rw [hjr] at O9
        have hcv := ownsF_conv (P := Tryd.prog) wr w.heap.size 33 9 5 Tryd.underlying33 Tryd.underlying5 Tryd.underlying9 (l := pX (r - 1)) O9 0 32 cap (by omega)
        rw [List.drop_zero, List.take_of_length_le (by rw [HXL.out]; omega), ← HP.out] at hcv
        clear O9 hjr hlt
        go_wp2_with fail
        go_ret2
        exact ⟨rfl, B4.out⟩
end Go.Proofs.YtkbfflnjbafamaaDoor
