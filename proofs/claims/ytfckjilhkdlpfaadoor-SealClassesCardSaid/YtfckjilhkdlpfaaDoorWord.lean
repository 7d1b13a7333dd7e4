/-
  Words of 32 bits in a walk: the walk's integers are kept as those of bit vectors, under a name that simp does not open.
-/
import Derived.Test.YtfckjilhkdlpfaaDoorKit
namespace MS
open Go Go.RowKit
abbrev W32 := BitVec 32
/-- A word's number. -/
def wv (x : W32) : Int := (x.toNat : Int)
theorem wv_nonneg (x : W32) : 0 ≤ wv x := by unfold wv; omega
theorem wv_lt (x : W32) : wv x < 4294967296 := by unfold wv; have := x.isLt; omega
theorem wv_inj {x y : W32} (h : wv x = wv y) : x = y := by
  unfold wv at h; exact BitVec.eq_of_toNat_eq (by omega)
theorem wv_beq (x y : W32) : (wv x == wv y) = (x == y) := by
  rw [Bool.eq_iff_iff, beq_iff_eq, beq_iff_eq]; exact ⟨wv_inj, fun h => by rw [h]⟩
/-- Any number that fits is a word's. -/
theorem wv_of (n : Int) (h0 : 0 ≤ n) (h1 : n < 4294967296) : ∃ x : W32, n = wv x :=
  ⟨BitVec.ofNat 32 n.toNat, by unfold wv; rw [BitVec.toNat_ofNat]; omega⟩
theorem w_add (x y : W32) : (wv x + wv y) % 4294967296 = wv (x + y) := by
  unfold wv; rw [BitVec.toNat_add]; omega
theorem w_xor (x y : W32) : bits .xor .u32 (wv x) (wv y) = wv (x ^^^ y) := by
  unfold wv; rw [u32_xor_nat _ _ x.isLt y.isLt, BitVec.toNat_xor]
theorem w_or (x y : W32) : bits .or .u32 (wv x) (wv y) = wv (x ||| y) := by
  unfold wv; rw [u32_or_nat _ _ x.isLt y.isLt, BitVec.toNat_or]
theorem w_and (x y : W32) : bits .and .u32 (wv x) (wv y) = wv (x &&& y) := by
  unfold wv; rw [u32_and_nat _ _ x.isLt y.isLt, BitVec.toNat_and]
/-- A turn to the left by n places, as the walk writes it. -/
theorem w_rot (x : W32) (n m : Nat) (h : n < 32) (hm : n + m = 32) (a b : Int) (ha : a = ((x.toNat * 2 ^ n % 2 ^ 32 : Nat) : Int)) (hb : b = ((x.toNat / 2 ^ m : Nat) : Int)) :
    bits .or .u32 a b = wv (x.rotateLeft n) := by
  subst ha; subst hb
  have h1 : x.toNat * 2 ^ n % 2 ^ 32 < 4294967296 := Nat.mod_lt _ (by decide)
  have h2 : x.toNat / 2 ^ m < 4294967296 := Nat.lt_of_le_of_lt (Nat.div_le_self _ _) x.isLt
  unfold wv
  rw [u32_or_nat _ _ h1 h2, BitVec.rotateLeft_def, Nat.mod_eq_of_lt h, BitVec.toNat_or, BitVec.toNat_shiftLeft, BitVec.toNat_ushiftRight, Nat.shiftLeft_eq, Nat.shiftRight_eq_div_pow, show 32 - n = m by omega]
theorem w_sub (x y : W32) : (wv x - wv y) % 4294967296 = wv (x - y) := by
  unfold wv; rw [BitVec.toNat_sub]; have := x.isLt; have := y.isLt; omega
/-- A turn to the right, as it is written out. -/
def rotr (x : W32) (n m : Nat) : W32 := BitVec.ofNat 32 (x.toNat / 2 ^ n + x.toNat * 2 ^ m % 2 ^ 32)
theorem rotr_lt (x : Nat) (n m : Nat) (hm : n + m = 32) (hx : x < 2 ^ 32) : x / 2 ^ n + x * 2 ^ m % 2 ^ 32 < 2 ^ 32 ∧ x / 2 ^ n < 2 ^ m ∧ (x * 2 ^ m % 2 ^ 32) % 2 ^ m = 0 := by
  have h1 : x / 2 ^ n < 2 ^ m := by
    rw [Nat.div_lt_iff_lt_mul (Nat.two_pow_pos n), ← Nat.pow_add, Nat.add_comm m n, hm]; exact hx
  have h2 : (x * 2 ^ m % 2 ^ 32) % 2 ^ m = 0 := by
    rw [Nat.mod_mod_of_dvd _ (Nat.pow_dvd_pow 2 (by omega)), Nat.mul_mod_left]
  have h3 : x * 2 ^ m % 2 ^ 32 < 2 ^ 32 := Nat.mod_lt _ (by decide)
  refine ⟨?_, h1, h2⟩
  have h4 : x * 2 ^ m % 2 ^ 32 = 2 ^ m * (x * 2 ^ m % 2 ^ 32 / 2 ^ m) := by
    have := Nat.div_add_mod (x * 2 ^ m % 2 ^ 32) (2 ^ m); omega
  have h5 : x * 2 ^ m % 2 ^ 32 / 2 ^ m < 2 ^ n := by
    rw [Nat.div_lt_iff_lt_mul (Nat.two_pow_pos m), ← Nat.pow_add, hm]; exact h3
  have h6 : 2 ^ m * (x * 2 ^ m % 2 ^ 32 / 2 ^ m) + 2 ^ m ≤ 2 ^ 32 := by
    rw [← Nat.mul_succ]
    calc 2 ^ m * (x * 2 ^ m % 2 ^ 32 / 2 ^ m).succ ≤ 2 ^ m * 2 ^ n := Nat.mul_le_mul_left _ h5
      _ = 2 ^ 32 := by rw [← Nat.pow_add, Nat.add_comm, hm]
  omega
theorem w_rotr (x : W32) (n m : Nat) (hm : n + m = 32) (a b : Int) (ha : a = ((x.toNat / 2 ^ n : Nat) : Int)) (hb : b = ((x.toNat * 2 ^ m % 2 ^ 32 : Nat) : Int)) :
    bits .or .u32 a b = wv (rotr x n m) := by
  subst ha; subst hb
  obtain ⟨h0, h1, h2⟩ := rotr_lt x.toNat n m hm x.isLt
  have h3 : x.toNat * 2 ^ m % 2 ^ 32 < 4294967296 := Nat.mod_lt _ (by decide)
  have h4 : x.toNat / 2 ^ n < 4294967296 := Nat.lt_of_le_of_lt (Nat.div_le_self _ _) x.isLt
  rw [u32_or_nat _ _ h4 h3, Nat.or_comm, nat_join m _ _ h2 h1, Nat.add_comm]
  unfold wv rotr
  rw [BitVec.toNat_ofNat, Nat.mod_eq_of_lt h0]
theorem w_r7 (x : W32) : bits .or .u32 (wv x / 128) (wv x * 33554432 % 4294967296) = wv (rotr x 7 25) := w_rotr x 7 25 (by decide) _ _ (by unfold wv; omega) (by unfold wv; omega)
theorem w_r8 (x : W32) : bits .or .u32 (wv x / 256) (wv x * 16777216 % 4294967296) = wv (rotr x 8 24) := w_rotr x 8 24 (by decide) _ _ (by unfold wv; omega) (by unfold wv; omega)
theorem w_r12 (x : W32) : bits .or .u32 (wv x / 4096) (wv x * 1048576 % 4294967296) = wv (rotr x 12 20) := w_rotr x 12 20 (by decide) _ _ (by unfold wv; omega) (by unfold wv; omega)
theorem w_r16 (x : W32) : bits .or .u32 (wv x / 65536) (wv x * 65536 % 4294967296) = wv (rotr x 16 16) := w_rotr x 16 16 (by decide) _ _ (by unfold wv; omega) (by unfold wv; omega)
end MS
