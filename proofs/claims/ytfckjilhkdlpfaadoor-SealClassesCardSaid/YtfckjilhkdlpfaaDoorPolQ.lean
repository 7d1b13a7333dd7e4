/-
  Bytes as numbers, the key's first half cleared, the product's loops, the tag: plain facts. No program stands in them.
-/
import Derived.Test.YtfckjilhkdlpfaaDoorPolP
import Derived.Test.YtfckjilhkdlpfaaDoorDig
import Derived.Test.YtfckjilhkdlpfaaDoorRw
namespace MS

/-- Bytes as a number, the lowest one first. -/
def leb : List UInt8 → Nat
  | [] => 0
  | b :: l => b.toNat + 256 * leb l
theorem leb_lt (l : List UInt8) : leb l < 256 ^ l.length := by
  induction l with
  | nil => decide
  | cons b l ih =>
    have := b.toNat_lt
    rw [leb, List.length_cons, Nat.pow_succ]
    generalize 256 ^ l.length = X at *
    omega
theorem leb_app (a b : List UInt8) : leb (a ++ b) = leb a + 256 ^ a.length * leb b := by
  induction a with
  | nil => simp [leb]
  | cons x a ih =>
    rw [List.cons_append, leb, leb, ih, List.length_cons, Nat.pow_succ, Nat.mul_add, Nat.mul_comm (256 ^ a.length) 256, Nat.mul_assoc]
    omega
theorem leb_div (l : List UInt8) (i : Nat) : leb l / 256 ^ i = leb (l.drop i) := by
  induction i generalizing l with
  | zero => simp
  | succ i ih =>
    cases l with
    | nil => simp [leb]
    | cons b l =>
      have := b.toNat_lt
      rw [List.drop_succ_cons, ← ih l, Nat.pow_succ, Nat.mul_comm, ← Nat.div_div_eq_div_mul, leb]
      congr 1
      omega
theorem leb_mod (l : List UInt8) (i : Nat) : leb l % 256 ^ i = leb (l.take i) := by
  by_cases h : i ≤ l.length
  · have e := leb_app (l.take i) (l.drop i)
    have hl := leb_lt (l.take i)
    rw [List.take_append_drop, List.length_take, Nat.min_eq_left h] at e
    rw [List.length_take, Nat.min_eq_left h] at hl
    rw [e, Nat.add_mul_mod_self_left, Nat.mod_eq_of_lt hl]
  · rw [List.take_of_length_le (by omega), Nat.mod_eq_of_lt (Nat.lt_of_lt_of_le (leb_lt l) (Nat.pow_le_pow_right (by decide) (by omega)))]
theorem leb_digit (l : List UInt8) (i : Nat) (h : i < l.length) : leb l / 256 ^ i % 256 = (l[i]).toNat := by
  rw [leb_div, List.drop_eq_getElem_cons h, leb]
  have := (l[i]).toNat_lt
  omega
theorem leb_inj {a b : List UInt8} (hl : a.length = b.length) (h : leb a = leb b) : a = b := by
  induction a generalizing b with
  | nil => cases b with | nil => rfl | cons => simp at hl
  | cons x a ih =>
    cases b with
    | nil => simp at hl
    | cons y b =>
      have h1 := x.toNat_lt
      have h2 := y.toNat_lt
      rw [leb, leb] at h
      rw [ih (by simpa using hl) (by omega), UInt8.toNat_inj.1 (show x.toNat = y.toNat by omega)]
theorem leb_zeros (n : Nat) : leb (List.replicate n 0) = 0 := by
  induction n with
  | zero => rfl
  | succ n ih => rw [List.replicate_succ, leb, ih]; rfl
theorem dgn_leb (l : List UInt8) : dgn 256 l.length (leb l) = l.map UInt8.toNat := by
  apply List.ext_getElem?
  intro i
  by_cases h : i < l.length
  · rw [dg_get _ _ _ _ h, leb_digit l i h, List.getElem?_map, List.getElem?_eq_getElem h]; rfl
  · rw [List.getElem?_eq_none (by rw [length_dgn]; omega), List.getElem?_eq_none (by simp; omega)]
/-- The n lowest bytes of a number. -/
def nbs (n v : Nat) : List UInt8 := (dgn 256 n v).map UInt8.ofNat
theorem length_nbs (n v : Nat) : (nbs n v).length = n := by rw [nbs, List.length_map, length_dgn]
theorem nbs_get (n v i : Nat) (h : i < n) : (nbs n v)[i]? = some (UInt8.ofNat (v / 256 ^ i % 256)) := by
  rw [nbs, List.getElem?_map, dg_get _ _ _ _ h]; rfl
theorem nbs_leb (l : List UInt8) : nbs l.length (leb l) = l := by
  rw [nbs, dgn_leb, List.map_map]
  conv => rhs; rw [← List.map_id l]
  apply List.map_congr_left
  intro x _
  exact UInt8.ofNat_toNat
theorem leb_nbs (n v : Nat) : leb (nbs n v) = v % 256 ^ n := by
  induction n with
  | zero => simp [nbs, dgn, leb, Nat.mod_one]
  | succ n ih =>
    rw [nbs, dg_succ, List.map_append, leb_app, mod_succ, ← ih, List.length_map, length_dgn]
    simp only [List.map_cons, List.map_nil, leb, nbs]
    rw [UInt8.toNat_ofNat']
    congr 2
    have := Nat.mod_lt (v / 256 ^ n) (show 0 < 256 by decide)
    omega
theorem nbs_mod (n v : Nat) : nbs n (v % 256 ^ n) = nbs n v := by rw [nbs, dg_mod]; rfl

/-- The limbs of 16 bytes. -/
def splitL (v : Nat) : L5 := ⟨v % 67108864, v / 67108864 % 67108864, v / 4503599627370496 % 67108864, v / 302231454903657293676544 % 67108864, v / 20282409603651670423947251286016⟩
theorem splitL_v (v : Nat) : (splitL v).v = v := by
  simp only [splitL, L5.v]
  omega
theorem splitL_in {v : Nat} (h : v < 340282366920938463463374607431768211456) : (splitL v).in26 ∧ (splitL v).e < 16777216 := by
  unfold L5.in26
  simp only [splitL]
  omega
/-- Bits cleared in the key's first half. -/
def c1 (x : Nat) : Nat := x % 4 + x / 256 * 256
def c2 (x : Nat) : Nat := x % 256 + x / 16384 * 16384
def c3 (x : Nat) : Nat := x % 16384 + x / 1048576 * 1048576
def c4 (x : Nat) : Nat := x % 1048576
def pclampL (v : Nat) : L5 := ⟨(splitL v).a, c1 (splitL v).b, c2 (splitL v).c, c3 (splitL v).d, c4 (splitL v).e⟩
theorem pclampL_in {v : Nat} (h : v < 340282366920938463463374607431768211456) : (pclampL v).in26 := by
  obtain ⟨⟨h0, h1, h2, h3, h4⟩, h5⟩ := splitL_in h
  unfold L5.in26 pclampL c1 c2 c3 c4
  simp only
  omega
def clampN (v : Nat) : Nat := (pclampL v).v
theorem and_two {x k r r' M q : Nat} (hx : x = 2 ^ k * q + r) (hr : r < 2 ^ k) (hr' : r' < 2 ^ k) : x &&& (2 ^ k * M + r') = 2 ^ k * (q &&& M) + (r &&& r') := by
  apply Nat.eq_of_testBit_eq
  intro j
  have h3 : r &&& r' < 2 ^ k := Nat.and_lt_two_pow _ hr'
  rw [hx, Nat.testBit_and, Nat.testBit_two_pow_mul_add _ hr, Nat.testBit_two_pow_mul_add _ hr', Nat.testBit_two_pow_mul_add _ h3]
  split
  · rw [Nat.testBit_and]
  · rw [Nat.testBit_and]
theorem and_low {x : Nat} (n : Nat) : x &&& (2 ^ n - 1) = x % 2 ^ n := Nat.and_two_pow_sub_one_eq_mod x n
theorem and_mid (x m k n : Nat) (hm : m ≤ k) (hx : x < 2 ^ (k + n)) : x &&& (2 ^ k * (2 ^ n - 1) + (2 ^ m - 1)) = x % 2 ^ m + x / 2 ^ k * 2 ^ k := by
  have hk : 2 ^ m ≤ 2 ^ k := Nat.pow_le_pow_right (by decide) hm
  have hm0 := Nat.two_pow_pos m
  rw [and_two (q := x / 2 ^ k) (r := x % 2 ^ k) (by rw [Nat.div_add_mod]) (Nat.mod_lt _ (Nat.two_pow_pos k)) (by omega), and_low, and_low, Nat.mod_mod_of_dvd _ (Nat.pow_dvd_pow 2 hm),
    Nat.mod_eq_of_lt (a := x / 2 ^ k) (by rw [Nat.div_lt_iff_lt_mul (Nat.two_pow_pos k), ← Nat.pow_add, Nat.add_comm n k]; exact hx), Nat.mul_comm, Nat.add_comm]
theorem and_c1 (x : Nat) (h : x < 67108864) : x &&& 67108611 = c1 x := and_mid x 2 8 18 (by decide) h
theorem and_c2 (x : Nat) (h : x < 67108864) : x &&& 67092735 = c2 x := and_mid x 8 14 12 (by decide) h
theorem and_c3 (x : Nat) (h : x < 67108864) : x &&& 66076671 = c3 x := and_mid x 14 20 6 (by decide) h
theorem and_c4 (x : Nat) : x &&& 1048575 = c4 x := and_low 20
/-- A digit of what is left. -/
def clD (i d : Nat) : Nat := if i % 4 = 3 then d % 16 else if i % 4 = 0 ∧ 0 < i then d / 4 * 4 else d
def cw (a w : Nat) : Nat := if a = 0 then w % 268435456 else w % 268435456 / 4 * 4
theorem clampN_words (v : Nat) : clampN v = cw 0 (v % 4294967296) + 4294967296 * cw 1 (v / 4294967296 % 4294967296) + 18446744073709551616 * cw 1 (v / 18446744073709551616 % 4294967296) + 79228162514264337593543950336 * cw 1 (v / 79228162514264337593543950336) := by
  have e1 : v / 67108864 % 67108864 = v % 4294967296 / 67108864 + 64 * (v / 4294967296 % 4294967296 % 1048576) := by omega
  have e2 : v / 4503599627370496 % 67108864 = v / 4294967296 % 4294967296 / 1048576 + 4096 * (v / 18446744073709551616 % 4294967296 % 16384) := by omega
  have e3 : v / 302231454903657293676544 % 67108864 = v / 18446744073709551616 % 4294967296 / 16384 + 262144 * (v / 79228162514264337593543950336 % 256) := by omega
  have e4 : v / 20282409603651670423947251286016 = v / 79228162514264337593543950336 / 256 := by omega
  have e0 : v % 67108864 = v % 4294967296 % 67108864 := by omega
  have b0 : v % 4294967296 < 4294967296 := Nat.mod_lt _ (by decide)
  have b1 : v / 4294967296 % 4294967296 < 4294967296 := Nat.mod_lt _ (by decide)
  have b2 : v / 18446744073709551616 % 4294967296 < 4294967296 := Nat.mod_lt _ (by decide)
  simp only [clampN, pclampL, splitL, L5.v, e0, e1, e2, e3, e4]
  generalize v % 4294967296 = w0 at *
  generalize v / 4294967296 % 4294967296 = w1 at *
  generalize v / 18446744073709551616 % 4294967296 = w2 at *
  generalize v / 79228162514264337593543950336 = w3 at *
  clear e0 e1 e2 e3 e4
  have x0 : w0 % 67108864 + 67108864 * c1 (w0 / 67108864 + 64 * (w1 % 1048576)) = w0 % 268435456 + 4294967296 * (w1 % 1048576 / 4 * 4) := by
    unfold c1; omega
  have x1 : c2 (w1 / 1048576 + 4096 * (w2 % 16384)) = w1 / 1048576 % 256 + 4096 * (w2 % 16384 / 4 * 4) := by
    unfold c2; omega
  have x2 : c3 (w2 / 16384 + 262144 * (w3 % 256)) = w2 / 16384 % 16384 + 262144 * (w3 % 256 / 4 * 4) := by
    unfold c3; omega
  have x3 : c4 (w3 / 256) = w3 / 256 % 1048576 := rfl
  rw [x1, x2, x3]
  have x4 : w0 % 67108864 + 67108864 * c1 (w0 / 67108864 + 64 * (w1 % 1048576)) = _ := x0
  rw [x0]
  simp only [cw, if_pos, if_neg (show ¬ (1 = 0) by decide)]
  clear x0 x1 x2 x3 x4
  omega
theorem dig_word (v q r : Nat) (hr : r < 4) : v / 4294967296 ^ q % 4294967296 / 256 ^ r % 256 = v / 256 ^ (4 * q + r) % 256 := by
  rw [Nat.pow_add, Nat.pow_mul, show (256 : Nat) ^ 4 = 4294967296 by decide, ← Nat.div_div_eq_div_mul]
  generalize v / 4294967296 ^ q = u
  have : r = 0 ∨ r = 1 ∨ r = 2 ∨ r = 3 := by omega
  rcases this with rfl | rfl | rfl | rfl <;> simp <;> omega
theorem cw_dig (a w r : Nat) (hr : r < 4) : cw a w / 256 ^ r % 256 = clD (4 * a + r) (w / 256 ^ r % 256) := by
  have h4 : (4 * a + r) % 4 = r := by omega
  unfold cw clD
  rw [h4]
  have : r = 0 ∨ r = 1 ∨ r = 2 ∨ r = 3 := by omega
  by_cases ha : a = 0
  · subst ha
    rcases this with rfl | rfl | rfl | rfl <;> simp <;> omega
  · rw [if_neg ha]
    rcases this with rfl | rfl | rfl | rfl <;> simp <;> (try rw [if_pos (by omega)]) <;> omega
theorem cw_lt (a w : Nat) : cw a w < 4294967296 := by unfold cw; split <;> omega
theorem cw_one (a w : Nat) (h : a ≠ 0) : cw 1 w = cw a w := by unfold cw; rw [if_neg (by decide), if_neg h]
theorem clampN_dig (v i : Nat) (hi : i < 16) (hv : v < 340282366920938463463374607431768211456) : clampN v / 256 ^ i % 256 = clD i (v / 256 ^ i % 256) := by
  obtain ⟨q, r, hq, hr, rfl⟩ : ∃ q r, q < 4 ∧ r < 4 ∧ i = 4 * q + r := ⟨i / 4, i % 4, by omega, by omega, by omega⟩
  rw [← dig_word (clampN v) q r hr, ← dig_word v q r hr]
  have h0 : v / 79228162514264337593543950336 % 4294967296 = v / 79228162514264337593543950336 := by omega
  have hw : clampN v / 4294967296 ^ q % 4294967296 = cw q (v / 4294967296 ^ q % 4294967296) := by
    rw [clampN_words, ← h0]
    have l0 := cw_lt 0 (v % 4294967296)
    have l1 := cw_lt 1 (v / 4294967296 % 4294967296)
    have l2 := cw_lt 1 (v / 18446744073709551616 % 4294967296)
    have l3 := cw_lt 1 (v / 79228162514264337593543950336 % 4294967296)
    have : q = 0 ∨ q = 1 ∨ q = 2 ∨ q = 3 := by omega
    rcases this with rfl | rfl | rfl | rfl
    · simp only [Nat.pow_zero, Nat.div_one]; omega
    · simp only [Nat.pow_one]; omega
    · rw [← cw_one 2 _ (by decide), show (4294967296 : Nat) ^ 2 = 18446744073709551616 by decide]; omega
    · rw [← cw_one 3 _ (by decide), show (4294967296 : Nat) ^ 3 = 79228162514264337593543950336 by decide]; omega
  rw [hw]
  exact cw_dig q _ r hr
theorem clampN_lt {v : Nat} : clampN v < 340282366920938463463374607431768211456 + 79228162514264337593543950336 * 0 := by
  rw [clampN_words]
  have l0 := cw_lt 0 (v % 4294967296)
  have l1 := cw_lt 1 (v / 4294967296 % 4294967296)
  have l2 := cw_lt 1 (v / 18446744073709551616 % 4294967296)
  have l3 := cw_lt 1 (v / 79228162514264337593543950336)
  omega

/-- The product's loops. -/
def tmP (X Y : Nat → Nat) (i j : Nat) : Nat := X i * (if i + j ≥ 5 then Y j * 5 else Y j)
def ixP (i j : Nat) : Nat := if i + j ≥ 5 then i + j - 5 else i + j
def innP (X Y f : Nat → Nat) (i : Nat) : Nat → Nat → Nat
  | 0 => f
  | j + 1 => upd (innP X Y f i j) (ixP i j) (innP X Y f i j (ixP i j) + tmP X Y i j)
def outP (X Y : Nat → Nat) : Nat → Nat → Nat
  | 0 => fun _ => 0
  | i + 1 => innP X Y (outP X Y i) i 5
theorem ixP_lt {i j : Nat} (hi : i < 5) (hj : j < 5) : ixP i j < 5 := by unfold ixP; split <;> omega
def TBP : Nat := 90071992547409920
theorem tmP_le {X Y : Nat → Nat} (hX : ∀ i, X i < 268435456) (hY : ∀ i, Y i < 67108864) (i j : Nat) : tmP X Y i j ≤ TBP := by
  have h1 := mul54 (hX i) (hY j)
  unfold tmP TBP
  split
  · rw [← Nat.mul_assoc]; omega
  · omega
theorem innP_le {X Y f : Nat → Nat} {i C : Nat} (hX : ∀ i, X i < 268435456) (hY : ∀ i, Y i < 67108864) (hf : ∀ k, f k ≤ C) (j k : Nat) : innP X Y f i j k ≤ C + j * TBP := by
  induction j generalizing k with
  | zero => rw [Nat.zero_mul]; exact hf k
  | succ j ih =>
    have h1 := ih k
    have h2 := ih (ixP i j)
    have h3 := tmP_le hX hY i j
    rw [innP, upd, Nat.succ_mul]
    split <;> omega
theorem outP_le {X Y : Nat → Nat} (hX : ∀ i, X i < 268435456) (hY : ∀ i, Y i < 67108864) (i k : Nat) : outP X Y i k ≤ 5 * i * TBP := by
  induction i generalizing k with
  | zero => exact Nat.zero_le _
  | succ i ih =>
    have := innP_le (i := i) hX hY ih 5 k
    rw [outP, show 5 * (i + 1) = 5 * i + 5 by omega, Nat.add_mul]
    exact this
theorem innP_lt {X Y : Nat → Nat} (hX : ∀ i, X i < 268435456) (hY : ∀ i, Y i < 67108864) {i : Nat} (hi : i < 5) {j : Nat} (hj : j ≤ 5) (k : Nat) : innP X Y (outP X Y i) i j k ≤ 2251799813685248000 := by
  have h1 := innP_le (i := i) hX hY (outP_le hX hY i) j k
  have h2 : 5 * i * TBP + j * TBP ≤ 25 * TBP := by
    rw [← Nat.add_mul]; exact Nat.mul_le_mul_right _ (by omega)
  unfold TBP at *
  omega
def getL (x : L5) : Nat → Nat
  | 0 => x.a
  | 1 => x.b
  | 2 => x.c
  | 3 => x.d
  | _ => x.e
theorem getL_28 {x : L5} (h : x.in28) (j : Nat) : getL x j < 268435456 := by
  obtain ⟨h1, h2, h3, h4, h5⟩ := h
  unfold getL
  split <;> assumption
theorem getL_26 {x : L5} (h : x.in26) (j : Nat) : getL x j < 67108864 := by
  obtain ⟨h1, h2, h3, h4, h5⟩ := h
  unfold getL
  split <;> assumption
theorem outP_end (x y : L5) : rowF (outP (getL x) (getL y) 5) = rowF (getL (mulD x y)) := by
  have h : ∀ k, k < 5 → outP (getL x) (getL y) 5 k = getL (mulD x y) k := by
    intro k hk
    have : k = 0 ∨ k = 1 ∨ k = 2 ∨ k = 3 ∨ k = 4 := by omega
    rcases this with rfl | rfl | rfl | rfl | rfl <;> simp [outP, innP, upd, ixP, tmP, getL, mulD, ← Nat.mul_assoc] <;> (have := Nat.mul_assoc 5 x.e y.e; omega)
  exact rowF_congr h
/-- The steps of carry. -/
def cvN (X : Nat → Nat) : Nat → Nat
  | 0 => 0
  | j + 1 => (X j + cvN X j) / 67108864
def cvG (X : Nat → Nat) (j : Nat) : Nat := (X j + cvN X j) % 67108864
theorem cvN_le (X : Nat → Nat) (h : ∀ j, X j < 4611686018427387904) (j : Nat) : cvN X j < 137438953472 := by
  induction j with
  | zero => show 0 < _; decide
  | succ j ih => have := h j; rw [cvN]; omega
theorem carL_row (x : L5) : rowF (upd (cvG (getL x)) 0 (cvG (getL x) 0 + 5 * cvN (getL x) 5)) = rowF (getL (carL x)) := by
  refine rowF_congr fun k hk => ?_
  have : k = 0 ∨ k = 1 ∨ k = 2 ∨ k = 3 ∨ k = 4 := by omega
  rcases this with rfl | rfl | rfl | rfl | rfl <;> simp [upd, cvG, cvN, getL, carL, cov, crs]
theorem carL_in {x : L5} (h : x.in28) : (carL x).a < 67108960 ∧ (carL x).b < 67108864 ∧ (carL x).c < 67108864 ∧ (carL x).d < 67108864 ∧ (carL x).e < 67108864 := by
  obtain ⟨h0, h1, h2, h3, h4⟩ := h
  simp only [carL, cov, crs]
  omega
theorem mulL_row (h r : L5) : rowF (upd (upd (getL (carL (mulD h r))) 1 ((carL (mulD h r)).b + (carL (mulD h r)).a / 67108864)) 0 ((carL (mulD h r)).a % 67108864)) = rowF (getL (mulL h r)) := by
  refine rowF_congr fun k hk => ?_
  have : k = 0 ∨ k = 1 ∨ k = 2 ∨ k = 3 ∨ k = 4 := by omega
  rcases this with rfl | rfl | rfl | rfl | rfl <;> simp [upd, getL, mulL]
/-- The steps of least: five more on the lowest limb. -/
theorem plus5_row (x : L5) : rowF (cvG (upd (getL x) 0 (x.a + 5))) = rowF (getL (plus5 x).2) ∧ cvN (upd (getL x) 0 (x.a + 5)) 5 = (plus5 x).1 := by
  refine ⟨rowF_congr fun k hk => ?_, ?_⟩
  · have : k = 0 ∨ k = 1 ∨ k = 2 ∨ k = 3 ∨ k = 4 := by omega
    rcases this with rfl | rfl | rfl | rfl | rfl <;> simp [upd, cvG, cvN, getL, plus5, cov, crs]
  · simp [upd, cvN, getL, plus5, cov]

/-- The tag: h behind k blocks. -/
def blkP (l : List UInt8) (k : Nat) : List UInt8 := (l.drop (16 * k)).take 16
def stepP (r h : Nat) (b : List UInt8) : Nat := (h + (leb b + 256 ^ b.length)) * r % P130
def hP (r : Nat) (l : List UInt8) : Nat → Nat
  | 0 => 0
  | k + 1 => stepP r (hP r l k) (blkP l k)
def tagB (key s : ByteArray) : ByteArray := bs (nbs 16 (hP (clampN (leb ((ls key).take 16))) (ls s) ((s.size + 15) / 16) + leb ((ls key).drop 16)))
theorem size_tagB (key s : ByteArray) : (tagB key s).size = 16 := by rw [tagB, size_bs, length_nbs]
theorem hP_lt (r : Nat) (l : List UInt8) (k : Nat) : hP r l k < P130 := by
  cases k with
  | zero => show 0 < P130; decide
  | succ k => exact Nat.mod_lt _ (by decide)
end MS
