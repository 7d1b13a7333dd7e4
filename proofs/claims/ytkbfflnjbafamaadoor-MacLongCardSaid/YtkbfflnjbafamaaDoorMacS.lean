/-
  mac.Same, mac.Sum, the fixed answer of layer 2: the walks.
-/
import Derived.Test.YtkbfflnjbafamaaDoorMacM
namespace Go.Proofs.YtkbfflnjbafamaaDoor
open Go.RowKit MS

/-- Which bits differ among the first j bytes. -/
def dfN (a b : List UInt8) : Nat → Nat
  | 0 => 0
  | j + 1 => dfN a b j ||| ((a.getD j 0).toNat ^^^ (b.getD j 0).toNat)
theorem xor_lt (x y : UInt8) : x.toNat ^^^ y.toNat < 256 := Nat.xor_lt_two_pow (n := 8) x.toNat_lt y.toNat_lt
theorem dfN_lt (a b : List UInt8) (j : Nat) : dfN a b j < 256 := by
  induction j with
  | zero => simp [dfN]
  | succ j ih => exact Nat.or_lt_two_pow (n := 8) ih (xor_lt _ _)
theorem dfN_zero (a b : List UInt8) (j : Nat) : dfN a b j = 0 ↔ ∀ i, i < j → a.getD i 0 = b.getD i 0 := by
  induction j with
  | zero => simp [dfN]
  | succ j ih =>
    rw [dfN, Nat.or_eq_zero_iff, ih]
    constructor
    · rintro ⟨h1, h2⟩ i hi
      rcases Nat.lt_or_ge i j with h | h
      · exact h1 i h
      · obtain rfl : i = j := by omega
        apply UInt8.toNat_inj.1
        have h3 : ((a.getD i 0).toNat ^^^ (b.getD i 0).toNat) ^^^ (b.getD i 0).toNat = (a.getD i 0).toNat := by rw [Nat.xor_assoc, Nat.xor_self, Nat.xor_zero]
        rw [h2, Nat.zero_xor] at h3
        exact h3.symm
    · intro h
      refine ⟨fun i hi => h i (by omega), ?_⟩
      rw [h j (Nat.lt_succ_self j)]
      exact Nat.xor_self _
theorem same_iff (a b : ByteArray) (h : a.size = b.size) : (((dfN (ls a) (ls b) a.size : Nat) : Int) == 0) = decide (a = b) := by
  have e : (dfN (ls a) (ls b) a.size = 0) ↔ a = b := by
    rw [dfN_zero]
    constructor
    · intro hh
      apply ls_inj
      apply List.ext_getElem (by rw [length_ls, length_ls, h])
      intro i h1 h2
      have := hh i (by rw [← length_ls]; exact h1)
      simpa [h1, h2] using this
    · rintro rfl i _
      rfl
  rw [Bool.eq_iff_iff, beq_iff_eq, decide_eq_true_eq]
  constructor
  · intro h
    exact e.1 (by omega)
  · intro h
    have := e.2 h
    omega

set_option maxHeartbeats 400000 in
theorem same_any (a b : ByteArray) (w : World) (ha : a.size ≤ 100000) :
    Calls Tryd.prog 28 #[.string a, .string b] w fun e w' => e = .returned (.bool (decide (a = b))) ∧ Below w.heap.size w w' := by
  by_cases hab : a.size = b.size
  · have HAB := Lib.hid hab
    have HSI := Lib.hid (same_iff a b hab)
    have t1 : ((a.size : Int) != b.size) = false := by simp; omega
    have sb : (a.size : Int) ≤ 100000 := by omega
    clear hab ha
    go_enter Tryd.func28, Tryd.ntmps28
    go_wp2_with fail
    go_loopw [5, 14] (fun v i wr => ∃ j : Nat, j ≤ a.size ∧ i = .int .i64 j ∧ v = .int .u8 (dfN (ls a) (ls b) j : Nat) ∧ Below w.heap.size w wr) (fun _ i _ => a.size - (intOf i).toNat)
    case atStart => exact ⟨0, by omega, rfl, rfl, Below.refl _ _⟩
    case round =>
      obtain ⟨j, hj, rfl, rfl, hb⟩ := hrel
      have HB := Lib.hid hb
      clear hb
      by_cases hja : j < a.size
      · have hjb : j < b.size := by have := HAB.out; omega
        have ji : (j : Int) < a.size := Int.ofNat_lt.2 hja
        have jb : (j : Int) < b.size := Int.ofNat_lt.2 hjb
        have jn : (0 : Int) ≤ j := Int.natCast_nonneg j
        have HN := Lib.hid (show dfN (ls a) (ls b) (j + 1) = dfN (ls a) (ls b) j ||| ((a[j]'hja).toNat ^^^ (b[j]'hjb).toNat) by rw [ls_get a j hja, ls_get b j hjb]; rfl)
        have hl := dfN_lt (ls a) (ls b) j
        have hxl := xor_lt (a[j]'hja) (b[j]'hjb)
        have hxor : bits .xor .u8 ((a[j]'hja).toNat : Int) ((b[j]'hjb).toNat : Int) = (((a[j]'hja).toNat ^^^ (b[j]'hjb).toNat : Nat) : Int) := u8_xor_nat _ _ (a[j]'hja).toNat_lt (b[j]'hjb).toNat_lt
        generalize dfN (ls a) (ls b) j = d at HN hl
        have hor := u8_or_nat d ((a[j]'hja).toNat ^^^ (b[j]'hjb).toNat) hl hxl
        clear hl hxl
        go_wp2_with fail
        go_quiet (fail)
        go_wp2_with fail
        go_roundw
        case rel => exact ⟨j + 1, by omega, by go_num, by rw [HN.out], below_drewN HB.out _⟩
        case measure => simp [intOf]; omega
      · have ji : ¬ ((j : Int) < a.size) := by omega
        have hjj : j = a.size := by omega
        rw [hjj]
        have hz := HSI.out
        clear hjj hja
        go_wp2_with fail
        go_ret
        exact ⟨rfl, HB.out⟩
  · have t1 : ((a.size : Int) != b.size) = true := by simp; omega
    have HD := Lib.hid (show decide (a = b) = false by
      apply decide_eq_false
      rintro rfl
      exact hab rfl)
    clear hab
    go_enter Tryd.func28, Tryd.ntmps28
    go_wp2_with fail
    go_ret
    exact ⟨by rw [HD.out]; rfl, Below.refl _ _⟩

def kB (k : ByteArray) : ByteArray := if k.size > 64 then sumB k else k
theorem size_kB (k : ByteArray) : (kB k).size ≤ 64 := by
  unfold kB
  split
  · rw [size_sumB]; decide
  · omega
/-- The keyed digest. -/
def macB (k s : ByteArray) : ByteArray := sumB (maskB (kB k) 92 (sumB (maskB (kB k) 54 s)))
theorem size_macB (k s : ByteArray) : (macB k s).size = 32 := size_sumB _

set_option maxHeartbeats 400000 in
theorem mac_any (k s : ByteArray) (w : World) (hk : k.size ≤ 10000) (hs : s.size ≤ 10000) (G : Glob w) :
    Calls Tryd.prog 26 #[.string k, .string s] w fun e w' => e = .returned (.string (macB k s)) ∧ Below w.heap.size w w' := by
  have HG := Lib.hid G
  have M1 := Lib.hid (fun w => mask_any (kB k) 54 s w (size_kB k) (by omega))
  have S1 := Lib.hid (fun w G => sum_any (maskB (kB k) 54 s) w (by rw [size_maskB]; omega) G)
  have M2 := Lib.hid (fun w => mask_any (kB k) 92 (sumB (maskB (kB k) 54 s)) w (size_kB k) (by rw [size_sumB]; decide))
  have S2 := Lib.hid (fun w G => sum_any (maskB (kB k) 92 (sumB (maskB (kB k) 54 s))) w (by rw [size_maskB, size_sumB]; decide) G)
  have HM := Lib.hid (show macB k s = sumB (maskB (kB k) 92 (sumB (maskB (kB k) 54 s))) from rfl)
  clear G hs
  by_cases h : k.size > 64
  · have SK := Lib.hid (fun w G => sum_any k w (by omega) G)
    rw [show sumB k = kB k by rw [kB, if_pos h]] at SK
    have t1 : decide ((k.size : Int) > 64) = true := by simp; omega
    generalize kB k = K at *
    clear h hk
    go_enter Tryd.func26, Tryd.ntmps26
    go_wp2_with fail
    refine (SK.out _ HG.out).mono ?_
    rintro e w1 ⟨rfl, hb1⟩
    have B1 := Lib.hid hb1
    clear hb1
    go_wp2_with fail
    refine (M1.out _).mono ?_
    rintro e w2 ⟨rfl, hb2⟩
    have B2 := Lib.hid (B1.out.trans (hb2.mono B1.out.size))
    clear hb2
    go_wp2_with fail
    refine (S1.out _ (HG.out.on B2.out)).mono ?_
    rintro e w3 ⟨rfl, hb3⟩
    have B3 := Lib.hid (B2.out.trans (hb3.mono B2.out.size))
    clear hb3
    go_wp2_with fail
    refine (M2.out _).mono ?_
    rintro e w4 ⟨rfl, hb4⟩
    have B4 := Lib.hid (B3.out.trans (hb4.mono B3.out.size))
    clear hb4
    go_wp2_with fail
    refine (S2.out _ (HG.out.on B4.out)).mono ?_
    rintro e w5 ⟨rfl, hb5⟩
    go_wp2_with fail
    go_ret
    exact ⟨by rw [HM.out]; rfl, B4.out.trans (hb5.mono B4.out.size)⟩
  · have hK : kB k = k := by rw [kB, if_neg h]
    rw [hK] at M1 S1 M2 S2 HM
    have t1 : decide ((k.size : Int) > 64) = false := by simp; omega
    clear h hk hK
    go_enter Tryd.func26, Tryd.ntmps26
    go_wp2_with fail
    refine (M1.out _).mono ?_
    rintro e w2 ⟨rfl, hb2⟩
    have B2 := Lib.hid hb2
    clear hb2
    go_wp2_with fail
    refine (S1.out _ (HG.out.on B2.out)).mono ?_
    rintro e w3 ⟨rfl, hb3⟩
    have B3 := Lib.hid (B2.out.trans (hb3.mono B2.out.size))
    clear hb3
    go_wp2_with fail
    refine (M2.out _).mono ?_
    rintro e w4 ⟨rfl, hb4⟩
    have B4 := Lib.hid (B3.out.trans (hb4.mono B3.out.size))
    clear hb4
    go_wp2_with fail
    refine (S2.out _ (HG.out.on B4.out)).mono ?_
    rintro e w5 ⟨rfl, hb5⟩
    go_wp2_with fail
    go_ret
    exact ⟨by rw [HM.out]; rfl, B4.out.trans (hb5.mono B4.out.size)⟩

def jefe : ByteArray := ByteArray.mk #[74, 101, 102, 101]
def want : ByteArray := ByteArray.mk #[119, 104, 97, 116, 32, 100, 111, 32, 121, 97, 32, 119, 97, 110, 116, 32, 102, 111, 114, 32, 110, 111, 116, 104, 105, 110, 103, 63]
set_option maxRecDepth 100000 in
theorem jefe_mac : (macB jefe want).extract 0 4 = ByteArray.mk #[91, 220, 193, 70] := by
  decide +kernel

set_option maxHeartbeats 400000 in
theorem awake02_any (w : World) (G : Glob w) :
    Calls Tryd.prog 25 #[] w fun e w' => e = .returned (.bool true) ∧ Below w.heap.size w w' := by
  have S := Lib.hid (fun w G => mac_any jefe want w (by decide) (by decide) G)
  have X1 := Lib.hid (fun w => same_any (ByteArray.mk #[97, 98]) (ByteArray.mk #[97, 98]) w (by decide))
  have X2 := Lib.hid (fun w => same_any (ByteArray.mk #[97, 98]) (ByteArray.mk #[97, 99]) w (by decide))
  rw [show decide (ByteArray.mk #[97, 98] = ByteArray.mk #[97, 98]) = true by decide] at X1
  rw [show decide (ByteArray.mk #[97, 98] = ByteArray.mk #[97, 99]) = false by decide] at X2
  have hj := jefe_mac
  have hz := size_macB jefe want
  generalize macB jefe want = d at S hj hz
  have HG := Lib.hid G
  clear G
  go_enter Tryd.func25, Tryd.ntmps25
  go_wp2_with fail
  refine (S.out _ HG.out).mono ?_
  rintro e w1 ⟨rfl, hb1⟩
  have B1 := Lib.hid hb1
  clear hb1
  have hz' : (d.size : Int) = 32 := by omega
  have hz2 : (4 : Int) ≤ d.size := by omega
  go_wp2_with fail
  refine (X1.out _).mono ?_
  rintro e w2 ⟨rfl, hb2⟩
  have B2 := Lib.hid (B1.out.trans (hb2.mono B1.out.size))
  clear hb2
  go_wp2_with fail
  refine (X2.out _).mono ?_
  rintro e w3 ⟨rfl, hb3⟩
  go_wp2_with fail
  go_ret
  exact ⟨rfl, B2.out.trans (hb3.mono B2.out.size)⟩
end Go.Proofs.YtkbfflnjbafamaaDoor
