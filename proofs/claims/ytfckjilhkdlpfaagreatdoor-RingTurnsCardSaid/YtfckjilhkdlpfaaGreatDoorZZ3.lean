/-
  Texts of this seat, put together (what is needed of them): Dig, Dig2, PowP, FeI, FeS, FeB, FeQ, RFa, RFb, RFc, RFd, RFe, RFf, RFg, App2, RFh, RFl.
-/
import Derived.Test.YtfckjilhkdlpfaaGreatDoorZZ2
import Derived.Laws.OwnMore
import Derived.OwnWalk
import Derived.Deep.RegionWith
import Derived.Deep.DeepCutAuto
import Derived.OrdersHeld
import Derived.Deep.AppendLies
import Derived.Great.Frames

namespace MS
/-- The n lowest digits of v to the base B. -/
def dgn (B n v : Nat) : List Nat := (List.range n).map fun i => v / B ^ i % B
theorem length_dgn (B n v : Nat) : (dgn B n v).length = n := by simp [dgn]
theorem dg_get (B n v i : Nat) (h : i < n) : (dgn B n v)[i]? = some (v / B ^ i % B) := by simp [dgn, h]
theorem dg_succ (B n v : Nat) : dgn B (n + 1) v = dgn B n v ++ [v / B ^ n % B] := by simp [dgn, List.range_succ]
theorem dig_mod (B n v i : Nat) (h : i < n) : v % B ^ n / B ^ i % B = v / B ^ i % B := by
  obtain ⟨k, rfl⟩ : ∃ k, n = i + (k + 1) := ⟨n - i - 1, by omega⟩
  rw [Nat.pow_add, Nat.mod_mul_right_div_self, Nat.pow_succ, Nat.mul_comm, Nat.mod_mul_right_mod]
theorem dg_congr (B n v u : Nat) (h : v % B ^ n = u % B ^ n) : dgn B n v = dgn B n u := by
  apply List.ext_getElem?
  intro i
  by_cases hi : i < n
  · rw [dg_get _ _ _ _ hi, dg_get _ _ _ _ hi, ← dig_mod B n v i hi, h, dig_mod B n u i hi]
  · rw [List.getElem?_eq_none (by rw [length_dgn]; omega), List.getElem?_eq_none (by rw [length_dgn]; omega)]
theorem dg_mod (B n v : Nat) : dgn B n (v % B ^ n) = dgn B n v := dg_congr _ _ _ _ (Nat.mod_mod _ _)
theorem dig_lt (B : Nat) (hB : 0 < B) (v i : Nat) : v / B ^ i % B < B := Nat.mod_lt _ hB
theorem dig_zero {B n v i : Nat} (h : v < B ^ n) (hB : 0 < B) (hi : n ≤ i) : v / B ^ i % B = 0 := by
  rw [Nat.div_eq_of_lt (Nat.lt_of_lt_of_le h (Nat.pow_le_pow_right hB hi)), Nat.zero_mod]
theorem mod_succ (B v i : Nat) : v % B ^ (i + 1) = v % B ^ i + B ^ i * (v / B ^ i % B) := by
  rw [Nat.pow_succ, Nat.mod_mul]
/-- The top digit is nought: one digit fewer does. -/
theorem lt_of_top {B n v : Nat} (h : v < B ^ (n + 1)) (h0 : v / B ^ n % B = 0) : v < B ^ n := by
  have h1 := mod_succ B v n
  rw [Nat.mod_eq_of_lt h, h0, Nat.mul_zero, Nat.add_zero] at h1
  rw [h1]
  refine Nat.mod_lt _ ?_
  rcases Nat.eq_zero_or_pos (B ^ n) with e | e
  · rw [Nat.pow_succ, e, Nat.zero_mul] at h
    omega
  · exact e
/-- add: what is carried into place i. -/
def cry (B u v i : Nat) : Nat := (u % B ^ i + v % B ^ i) / B ^ i
theorem cry_zero (B u v : Nat) : cry B u v 0 = 0 := by simp [cry, Nat.mod_one]
theorem cry_le (B u v i : Nat) (hB : 0 < B) : cry B u v i ≤ 1 := by
  have hX : 0 < B ^ i := Nat.pow_pos hB
  have h1 := Nat.mod_lt u hX
  have h2 := Nat.mod_lt v hX
  unfold cry
  rw [← Nat.lt_succ_iff, Nat.div_lt_iff_lt_mul hX]
  omega
theorem add_sum (B u v i : Nat) (hB : 0 < B) : (u + v) / B ^ i = cry B u v i + u / B ^ i + v / B ^ i := by
  have hX : 0 < B ^ i := Nat.pow_pos hB
  unfold cry
  generalize B ^ i = X at hX
  have h1 : u + v = u % X + v % X + X * (u / X + v / X) := by
    have := Nat.div_add_mod u X; have := Nat.div_add_mod v X
    rw [Nat.mul_add]; omega
  conv => lhs; rw [h1, Nat.add_mul_div_left _ _ hX]
  omega
theorem add_digit (B u v i : Nat) (hB : 0 < B) : (u + v) / B ^ i % B = (cry B u v i + u / B ^ i % B + v / B ^ i % B) % B := by
  rw [add_sum B u v i hB]
  simp [Nat.add_mod]
theorem add_carry (B u v i : Nat) (hB : 0 < B) : cry B u v (i + 1) = (cry B u v i + u / B ^ i % B + v / B ^ i % B) / B := by
  have hX : 0 < B ^ i := Nat.pow_pos hB
  unfold cry
  rw [mod_succ, mod_succ, Nat.pow_succ, ← Nat.div_div_eq_div_mul]
  congr 1
  generalize B ^ i = X at hX
  have h1 : u % X + X * (u / X % B) + (v % X + X * (v / X % B)) = u % X + v % X + X * (u / X % B + v / X % B) := by rw [Nat.mul_add]; omega
  rw [h1, Nat.add_mul_div_left _ _ hX]
  omega
/-- add ends where both are over and nothing is carried. -/
theorem add_ends {B u v n m i : Nat} (hu : u < B ^ n) (hv : v < B ^ m) (hB : 0 < B) (hn : n ≤ i) (hm : m ≤ i) (hc : cry B u v i = 0) : u + v < B ^ i := by
  have hX : 0 < B ^ i := Nat.pow_pos hB
  have h1 : u < B ^ i := Nat.lt_of_lt_of_le hu (Nat.pow_le_pow_right hB hn)
  have h2 : v < B ^ i := Nat.lt_of_lt_of_le hv (Nat.pow_le_pow_right hB hm)
  unfold cry at hc
  rw [Nat.mod_eq_of_lt h1, Nat.mod_eq_of_lt h2] at hc
  refine Nat.lt_of_not_le fun hle => ?_
  have := Nat.div_pos hle hX
  omega
/-- times: the sum so far, and what is carried. -/
def tsum (B u v i k : Nat) : Nat := (u % B ^ i * v) % B ^ (i + k) + B ^ i * (u / B ^ i % B) * (v % B ^ k)
theorem tsum_zero (B u v i : Nat) : tsum B u v i 0 = u % B ^ i * v % B ^ i := by simp [tsum, Nat.mod_one]
theorem tsum_succ (B u v i k : Nat) : tsum B u v i (k + 1) = tsum B u v i k + B ^ (i + k) * ((u % B ^ i * v) / B ^ (i + k) % B + u / B ^ i % B * (v / B ^ k % B)) := by
  unfold tsum
  rw [← Nat.add_assoc, mod_succ B (u % B ^ i * v) (i + k), mod_succ B v k, Nat.pow_add, Nat.mul_add, Nat.mul_add]
  generalize u % B ^ i * v / (B ^ i * B ^ k) % B = a
  generalize u % B ^ i * v % (B ^ i * B ^ k) = a2
  generalize u / B ^ i % B = b
  generalize v / B ^ k % B = c
  have : B ^ i * b * (B ^ k * c) = B ^ i * B ^ k * (b * c) := by
    rw [Nat.mul_assoc, Nat.mul_assoc]
    congr 1
    rw [Nat.mul_left_comm]
  omega
theorem tsum_step (B u v i k : Nat) (hB : 0 < B) : tsum B u v i (k + 1) / B ^ (i + k) = tsum B u v i k / B ^ (i + k) + ((u % B ^ i * v) / B ^ (i + k) % B + u / B ^ i % B * (v / B ^ k % B)) := by
  rw [tsum_succ, Nat.add_mul_div_left _ _ (Nat.pow_pos hB)]
theorem tsum_digit (B u v i k : Nat) (hB : 0 < B) : tsum B u v i (k + 1) / B ^ (i + k) % B = (tsum B u v i k / B ^ (i + k) + ((u % B ^ i * v) / B ^ (i + k) % B + u / B ^ i % B * (v / B ^ k % B))) % B := by
  rw [tsum_step _ _ _ _ _ hB]
theorem tsum_carry (B u v i k : Nat) (hB : 0 < B) : tsum B u v i (k + 1) / B ^ (i + (k + 1)) = (tsum B u v i k / B ^ (i + k) + ((u % B ^ i * v) / B ^ (i + k) % B + u / B ^ i % B * (v / B ^ k % B))) / B := by
  rw [← tsum_step _ _ _ _ _ hB, ← Nat.add_assoc, Nat.pow_succ, Nat.div_div_eq_div_mul]
theorem tsum_low (B u v i k : Nat) : tsum B u v i (k + 1) % B ^ (i + k) = tsum B u v i k % B ^ (i + k) := by
  rw [tsum_succ, Nat.add_mul_mod_self_left]
theorem tsum_c0 (B u v i : Nat) (hB : 0 < B) : tsum B u v i 0 / B ^ (i + 0) = 0 := by
  rw [tsum_zero, Nat.add_zero, Nat.div_eq_of_lt (Nat.mod_lt _ (Nat.pow_pos hB))]
theorem tsum_end (B u v i m : Nat) (hB : 0 < B) (hv : v < B ^ m) : tsum B u v i m = u % B ^ (i + 1) * v := by
  have h1 : u % B ^ i * v < B ^ (i + m) := by
    rw [Nat.pow_add]
    have h2 := Nat.mod_lt u (Nat.pow_pos (n := i) hB)
    rcases Nat.eq_zero_or_pos v with e | e
    · subst e; rw [Nat.mul_zero]; exact Nat.mul_pos (Nat.pow_pos hB) (Nat.pow_pos hB)
    · exact Nat.lt_trans (Nat.mul_lt_mul_of_pos_right h2 e) (Nat.mul_lt_mul_of_pos_left hv (Nat.pow_pos hB))
  rw [tsum, Nat.mod_eq_of_lt h1, Nat.mod_eq_of_lt hv, mod_succ, Nat.add_mul]
theorem prod_lt_pow {B n m u v : Nat} (hu : u < B ^ n) (hv : v < B ^ m) (hB : 0 < B) : u * v < B ^ (n + m) := by
  rw [Nat.pow_add]
  rcases Nat.eq_zero_or_pos v with e | e
  · subst e; rw [Nat.mul_zero]; exact Nat.mul_pos (Nat.pow_pos hB) (Nat.pow_pos hB)
  · exact Nat.lt_trans (Nat.mul_lt_mul_of_pos_right hu e) (Nat.mul_lt_mul_of_pos_left hv (Nat.pow_pos hB))
/-- What is carried stays below the base, so that every sum stays small. -/
theorem tsum_c_lt (B u v i k : Nat) (hB : 0 < B) : tsum B u v i k / B ^ (i + k) < B := by
  induction k with
  | zero => rw [tsum_c0 _ _ _ _ hB]; exact hB
  | succ k ih =>
    rw [tsum_carry _ _ _ _ _ hB, Nat.div_lt_iff_lt_mul hB]
    have h1 : (u % B ^ i * v) / B ^ (i + k) % B < B := Nat.mod_lt _ hB
    have h2 : u / B ^ i % B < B := Nat.mod_lt _ hB
    have h3 : v / B ^ k % B < B := Nat.mod_lt _ hB
    have h4 : u / B ^ i % B * (v / B ^ k % B) ≤ (B - 1) * (B - 1) := Nat.mul_le_mul (by omega) (by omega)
    have h5 : (B - 1) * (B - 1) + (B + B) = B * B + 1 := by
      obtain ⟨c, rfl⟩ : ∃ c, B = c + 1 := ⟨B - 1, by omega⟩
      simp [Nat.mul_add, Nat.add_mul]; omega
    omega
/-- The row of times behind k rounds of the inner loop. -/
def trow (B N u v i k : Nat) : List Nat := dgn B (i + k) (tsum B u v i k) ++ (dgn B N (u % B ^ i * v)).drop (i + k)
theorem trow_zero (B N u v i : Nat) (h : i ≤ N) : trow B N u v i 0 = dgn B N (u % B ^ i * v) := by
  rw [trow, tsum_zero, Nat.add_zero, dg_mod]
  apply List.ext_getElem?
  intro j
  rw [List.getElem?_append, length_dgn]
  by_cases h1 : j < i
  · rw [if_pos h1, dg_get _ _ _ _ h1, dg_get _ _ _ _ (by omega)]
  · rw [if_neg h1, List.getElem?_drop, show i + (j - i) = j by omega]
theorem trow_get (B N u v i k j : Nat) (h : i + k ≤ j) (hj : j < N) : (trow B N u v i k)[j]? = some (u % B ^ i * v / B ^ j % B) := by
  rw [trow, List.getElem?_append_right (by rw [length_dgn]; exact h), length_dgn, List.getElem?_drop, show i + k + (j - (i + k)) = j by omega, dg_get _ _ _ _ hj]
theorem drop_cons {α : Type} (l : List α) (p : Nat) (x : α) (h : p < l.length) : (l.drop p).set 0 x = x :: l.drop (p + 1) := by
  rw [List.drop_eq_getElem_cons h]; rfl
theorem trow_set (B N u v i k : Nat) (h : i + k < N) : (trow B N u v i k).set (i + k) (tsum B u v i (k + 1) / B ^ (i + k) % B) = trow B N u v i (k + 1) := by
  have hl : (dgn B (i + k) (tsum B u v i k)).length = i + k := length_dgn _ _ _
  rw [trow, List.set_append_right _ _ (by omega), hl, Nat.sub_self, drop_cons _ _ _ (by rw [length_dgn]; exact h), trow, ← Nat.add_assoc, dg_succ, dg_congr B (i + k) _ _ (tsum_low B u v i k)]
  simp
theorem trow_last (B N u v i m : Nat) (hB : 0 < B) (hv : v < B ^ m) (h : i + m < N) : (trow B N u v i m).set (i + m) (u % B ^ i * v / B ^ (i + m) % B + tsum B u v i m / B ^ (i + m)) = dgn B N (u % B ^ (i + 1) * v) := by
  have hW : u % B ^ i * v < B ^ (i + m) := prod_lt_pow (Nat.mod_lt _ (Nat.pow_pos hB)) hv hB
  have hV : u % B ^ (i + 1) * v < B ^ (i + 1 + m) := prod_lt_pow (Nat.mod_lt _ (Nat.pow_pos hB)) hv hB
  have hc := tsum_c_lt B u v i m hB
  rw [tsum_end B u v i m hB hv] at hc ⊢
  have hl : (dgn B (i + m) (u % B ^ (i + 1) * v)).length = i + m := length_dgn _ _ _
  rw [trow, tsum_end B u v i m hB hv, List.set_append_right _ _ (by omega), hl, Nat.sub_self, drop_cons _ _ _ (by rw [length_dgn]; exact h), Nat.div_eq_of_lt hW, Nat.zero_mod, Nat.zero_add]
  apply List.ext_getElem?
  intro j
  rw [List.getElem?_append, hl]
  by_cases h1 : j < i + m
  · rw [if_pos h1, dg_get _ _ _ _ h1, dg_get _ _ _ _ (by omega)]
  · rw [if_neg h1]
    by_cases h2 : j = i + m
    · subst h2
      rw [Nat.sub_self, List.getElem?_cons_zero, dg_get _ _ _ _ h, Nat.mod_eq_of_lt hc]
    · obtain ⟨d, hd⟩ : ∃ d, j - (i + m) = d + 1 := ⟨j - (i + m) - 1, by omega⟩
      rw [hd, List.getElem?_cons_succ, List.getElem?_drop, show i + m + 1 + d = j by omega]
      by_cases h3 : j < N
      · rw [dg_get _ _ _ _ h3, dg_get _ _ _ _ h3, dig_zero hW hB (by omega), dig_zero hV hB (by omega)]
      · rw [List.getElem?_eq_none (by rw [length_dgn]; omega), List.getElem?_eq_none (by rw [length_dgn]; omega)]
/-- All the rounds: the sum of the places below n. -/
theorem dg_zero (B n : Nat) : dgn B n 0 = List.replicate n 0 := by
  apply List.ext_getElem?
  intro j
  by_cases h : j < n
  · rw [dg_get _ _ _ _ h]; simp [h]
  · rw [List.getElem?_eq_none (by rw [length_dgn]; omega), List.getElem?_eq_none (by simp; omega)]

/-- minus: what is lent at place i. -/
def lent (B u v i : Nat) : Nat := if u % B ^ i < v % B ^ i then 1 else 0
theorem lent_zero (B u v : Nat) : lent B u v 0 = 0 := by simp [lent, Nat.mod_one]
theorem lent_step (B u v i : Nat) (hB : 0 < B) : lent B u v (i + 1) = if u / B ^ i % B < v / B ^ i % B + lent B u v i then 1 else 0 := by
  unfold lent
  rw [mod_succ, mod_succ]
  have hX : 0 < B ^ i := Nat.pow_pos hB
  generalize B ^ i = X at hX
  have h1 := Nat.mod_lt u hX
  have h2 := Nat.mod_lt v hX
  generalize u % X = a at h1 ⊢
  generalize v % X = b at h2 ⊢
  generalize u / X % B = p
  generalize v / X % B = q
  by_cases hpq : p < q
  · have : X * p + X ≤ X * q := by rw [← Nat.mul_succ]; exact Nat.mul_le_mul_left _ hpq
    rw [if_pos (by omega), if_pos (by split <;> omega)]
  · by_cases he : p = q
    · subst he
      by_cases hab : a < b
      · rw [if_pos (by omega), if_pos hab, if_pos (by omega)]
      · rw [if_neg (by omega), if_neg hab, if_neg (by omega)]
    · have : X * q + X ≤ X * p := by rw [← Nat.mul_succ]; exact Nat.mul_le_mul_left _ (by omega)
      rw [if_neg (by omega), if_neg (by split <;> omega)]
theorem sub_digit (B u v i : Nat) (hB : 0 < B) (h : v ≤ u) : ((u - v) / B ^ i % B) + (v / B ^ i % B + lent B u v i) = u / B ^ i % B + B * lent B u v (i + 1) := by
  obtain ⟨d, rfl⟩ : ∃ d, u = v + d := ⟨u - v, by omega⟩
  rw [Nat.add_sub_cancel_left]
  have e1 : ∀ j, lent B (v + d) v j = cry B v d j := by
    intro j
    have hX : 0 < B ^ j := Nat.pow_pos hB
    unfold lent cry
    rw [Nat.add_mod]
    generalize B ^ j = X at hX
    have h1 := Nat.mod_lt d hX
    have h2 := Nat.mod_lt v hX
    generalize d % X = a at h1 ⊢
    generalize v % X = b at h2 ⊢
    by_cases hc : b + a < X
    · rw [Nat.mod_eq_of_lt hc, if_neg (by omega), Nat.div_eq_of_lt hc]
    · rw [Nat.mod_eq_sub_mod (by omega), Nat.mod_eq_of_lt (by omega), if_pos (by omega), Nat.div_eq_sub_div hX (by omega), Nat.div_eq_of_lt (by omega)]
  rw [e1, e1, add_digit _ _ _ _ hB, add_carry _ _ _ _ hB]
  have := Nat.div_add_mod (cry B v d i + v / B ^ i % B + d / B ^ i % B) B
  omega
/-- below: the first place from above that differs. -/
theorem lt_of_digit {B u v i : Nat} (hB : 0 < B) (h : u / B ^ (i + 1) = v / B ^ (i + 1)) (hd : u / B ^ i % B < v / B ^ i % B) : u < v := by
  have hX : 0 < B ^ i := Nat.pow_pos hB
  rw [Nat.pow_succ, ← Nat.div_div_eq_div_mul, ← Nat.div_div_eq_div_mul] at h
  have h1 := Nat.div_add_mod (u / B ^ i) B
  have h2 := Nat.div_add_mod (v / B ^ i) B
  rw [h] at h1
  refine Nat.lt_of_not_le fun hle => ?_
  have := Nat.div_le_div_right (c := B ^ i) hle
  omega
theorem div_of_digit {B u v i : Nat} (h : u / B ^ (i + 1) = v / B ^ (i + 1)) (hd : u / B ^ i % B = v / B ^ i % B) : u / B ^ i = v / B ^ i := by
  rw [Nat.pow_succ, ← Nat.div_div_eq_div_mul, ← Nat.div_div_eq_div_mul] at h
  rw [← Nat.div_add_mod (u / B ^ i) B, ← Nat.div_add_mod (v / B ^ i) B, h, hd]
end MS

namespace MS
def lo255 (u : Nat) : Nat := u % 2 ^ 255
def hi255 (u : Nat) : Nat := u / 2 ^ 255
theorem p255 : (2 : Nat) ^ 255 = 65536 ^ 15 * 32768 := by decide
theorem lo_dig (u i : Nat) (h : i < 15) : lo255 u / 65536 ^ i % 65536 = u / 65536 ^ i % 65536 := by
  rw [← dig_mod 65536 15 (lo255 u) i h, ← dig_mod 65536 15 u i h, lo255, p255, Nat.mod_mul_right_mod]
theorem lo_dig15 (u : Nat) : lo255 u / 65536 ^ 15 % 65536 = u / 65536 ^ 15 % 65536 % 32768 := by
  rw [lo255, p255, Nat.mod_mul_right_div_self]
  omega
theorem hi_dig (u j : Nat) : hi255 u / 65536 ^ j % 65536 = u / 65536 ^ (15 + j) % 65536 / 32768 + u / 65536 ^ (15 + j + 1) % 65536 % 32768 * 2 := by
  have e : hi255 u / 65536 ^ j = u / 65536 ^ (15 + j) / 32768 := by
    rw [hi255, p255, Nat.div_div_eq_div_mul, Nat.div_div_eq_div_mul, Nat.pow_add]
    congr 1
    rw [Nat.mul_assoc, Nat.mul_assoc, Nat.mul_comm 32768]
  rw [e, Nat.pow_succ, ← Nat.div_div_eq_div_mul]
  generalize u / 65536 ^ (15 + j) = X
  omega
theorem lo_lt (u : Nat) : lo255 u < 65536 ^ 16 := Nat.lt_trans (Nat.mod_lt _ (by decide)) (by decide)
theorem hi_lt {u n : Nat} (h : u < 65536 ^ n) (hn : 15 ≤ n) : hi255 u < 65536 ^ (n - 15) := by
  obtain ⟨m, rfl⟩ : ∃ m, n = 15 + m := ⟨n - 15, by omega⟩
  rw [hi255, Nat.div_lt_iff_lt_mul (by decide), p255, Nat.add_sub_cancel_left]
  refine Nat.lt_of_lt_of_le h ?_
  rw [Nat.pow_add, Nat.mul_comm, ← Nat.mul_assoc]
  exact Nat.le_mul_of_pos_right _ (by decide)
theorem fold_mod (u : Nat) : (lo255 u + 19 * hi255 u) % Q' = u % Q' := by
  have h := Nat.div_add_mod u (2 ^ 255)
  have e : u = lo255 u + 19 * hi255 u + Q' * hi255 u := by
    unfold lo255 hi255 Q'
    omega
  conv => rhs; rw [e, Nat.add_mul_mod_self_left]
theorem fold_lt {u : Nat} (h : hi255 u ≠ 0) : lo255 u + 19 * hi255 u < u := by
  have h1 := Nat.div_add_mod u (2 ^ 255)
  unfold lo255 hi255 at *
  omega
theorem fold_same {u : Nat} (h : hi255 u = 0) : lo255 u = u := by
  have h1 := Nat.div_add_mod u (2 ^ 255)
  unfold lo255 hi255 at *
  omega
theorem hi_zero {u : Nat} : hi255 u = 0 ↔ u < 2 ^ 255 := by
  unfold hi255
  omega
/-- Sixteen digits, the highest below 32768: less than 2^255. -/
theorem hi_top {u : Nat} (h : u < 65536 ^ 16) : (32767 < u / 65536 ^ 15 % 65536) ↔ hi255 u ≠ 0 := by
  rw [Ne, hi_zero]
  have h1 : u / 65536 ^ 15 < 65536 := by
    rw [Nat.div_lt_iff_lt_mul (by decide), Nat.mul_comm, ← Nat.pow_succ]; exact h
  rw [Nat.mod_eq_of_lt h1, p255]
  have h2 := Nat.div_lt_iff_lt_mul (x := u) (y := 32768) (k := 65536 ^ 15) (by decide)
  rw [Nat.mul_comm 32768] at h2
  omega
theorem red_end {u : Nat} (h : hi255 u = 0) : u % Q' = if u < Q' then u else u - Q' := by
  have := hi_zero.1 h
  unfold Q'
  split <;> omega
end MS

namespace MS
def E21 : Nat := 57896044618658097711785492504343953926634992332820282019728792003956564819947
theorem E21_bits : ∀ i : Fin 255, E21 / 2 ^ i.1 % 2 = if i.1 = 2 ∨ i.1 = 4 then 0 else 1 := by decide +kernel
theorem E21_top : E21 / 2 ^ 255 = 0 := by decide +kernel
theorem E21_step (i : Nat) (h : i < 255) : E21 / 2 ^ i = 2 * (E21 / 2 ^ (i + 1)) + if i = 2 ∨ i = 4 then 0 else 1 := by
  have h1 := E21_bits ⟨i, h⟩
  simp only at h1
  rw [← h1, Nat.pow_succ, ← Nat.div_div_eq_div_mul]
  omega
/-- What the document's loop holds when the bits above i are done. -/
def powA (a i : Nat) : Nat := a ^ (E21 / 2 ^ i) % Q'
theorem powA_top (a : Nat) : powA a 255 = 1 := by unfold powA; rw [E21_top, Nat.pow_zero]; decide
theorem powA_end (a : Nat) : powA a 0 = a ^ E21 % Q' := by unfold powA; rw [Nat.pow_zero, Nat.div_one]
theorem powA_sq (a i : Nat) (h : i < 255) (hi : i = 2 ∨ i = 4) : powA a (i + 1) * powA a (i + 1) % Q' = powA a i := by
  unfold powA
  rw [E21_step i h, if_pos hi, Nat.add_zero, ← Nat.mul_mod]
  generalize E21 / 2 ^ (i + 1) = n
  rw [Nat.two_mul, Nat.pow_add, Nat.pow_add, Nat.pow_zero, Nat.mul_one]
theorem powA_sqm (a i : Nat) (h : i < 255) (hi : ¬ (i = 2 ∨ i = 4)) : (powA a (i + 1) * powA a (i + 1) % Q') * (a % Q') % Q' = powA a i := by
  unfold powA
  rw [E21_step i h, if_neg hi]
  generalize E21 / 2 ^ (i + 1) = n
  rw [Nat.two_mul, Nat.pow_succ, Nat.pow_add, Nat.mul_mod (a ^ n * a ^ n), Nat.mul_mod (a ^ n) (a ^ n)]
/-- A number that is a power of a. -/
def pw (a n : Nat) : Nat := a ^ n
def isP (a : Nat) (x : N5) (n : Nat) : Prop := x.v % Q' = pw a n % Q'
theorem isP_mul {a n m : Nat} {x y : N5} (hx : isP a x n) (hy : isP a y m) : isP a (mul x y) (n + m) := by
  unfold isP pw at *
  rw [mul_mod, Nat.mul_mod, hx, hy, ← Nat.mul_mod, ← Nat.pow_add]
def sqs (x : N5) : Nat → N5
  | 0 => x
  | n + 1 => mul (sqs x n) (sqs x n)
theorem isP_sqs {a m : Nat} {x : N5} (hx : isP a x m) (n : Nat) : isP a (sqs x n) (m * 2 ^ n) := by
  induction n with
  | zero => rw [Nat.pow_zero, Nat.mul_one]; exact hx
  | succ n ih =>
    rw [sqs, Nat.pow_succ, ← Nat.mul_assoc, Nat.mul_two]
    exact isP_mul ih ih
theorem sqs_nar {x : N5} (hx : x.nar) (n : Nat) : (sqs x n).nar := by
  induction n with
  | zero => exact hx
  | succ n ih => exact mul_nar (nar_ok ih) (nar_ok ih)
/-- The program's chain. -/
def invN (a : N5) : N5 :=
  let p2 := mul a a
  let p9 := mul (sqs p2 2) a
  let p11 := mul p9 p2
  let o5 := mul (sqs p11 1) p9
  let o10 := mul (sqs o5 5) o5
  let o20 := mul (sqs o10 10) o10
  let o40 := mul (sqs o20 20) o20
  let o50 := mul (sqs o40 10) o10
  let o100 := mul (sqs o50 50) o50
  let o200 := mul (sqs o100 100) o100
  let o250 := mul (sqs o200 50) o50
  mul (sqs o250 5) p11
theorem invN_mod (a : N5) : (invN a).v % Q' = a.v ^ E21 % Q' := by
  have h0 : isP a.v a 1 := by unfold isP pw; rw [Nat.pow_one]
  have p2 := isP_mul h0 h0
  have p9 := isP_mul (isP_sqs p2 2) h0
  have p11 := isP_mul p9 p2
  have o5 := isP_mul (isP_sqs p11 1) p9
  have o10 := isP_mul (isP_sqs o5 5) o5
  have o20 := isP_mul (isP_sqs o10 10) o10
  have o40 := isP_mul (isP_sqs o20 20) o20
  have o50 := isP_mul (isP_sqs o40 10) o10
  have o100 := isP_mul (isP_sqs o50 50) o50
  have o200 := isP_mul (isP_sqs o100 100) o100
  have o250 := isP_mul (isP_sqs o200 50) o50
  have e := isP_mul (isP_sqs o250 5) p11
  unfold isP at e
  generalize a.v = z at e ⊢
  have key : ∀ n N, n = N → pw z n % Q' = z ^ N % Q' := fun n N h => by rw [h]; rfl
  obtain ⟨N, hN⟩ : ∃ N, E21 = N := ⟨_, rfl⟩
  rw [hN]
  exact e.trans (key _ N (by rw [← hN]; decide +kernel))
theorem invN_nar {a : N5} (h : a.ok) : (invN a).nar := by
  have p2 := mul_nar h h
  have p9 := mul_nar (nar_ok (sqs_nar p2 2)) h
  have p11 := mul_nar (nar_ok p9) (nar_ok p2)
  have o5 := mul_nar (nar_ok (sqs_nar p11 1)) (nar_ok p9)
  have o10 := mul_nar (nar_ok (sqs_nar o5 5)) (nar_ok o5)
  have o20 := mul_nar (nar_ok (sqs_nar o10 10)) (nar_ok o10)
  have o40 := mul_nar (nar_ok (sqs_nar o20 20)) (nar_ok o20)
  have o50 := mul_nar (nar_ok (sqs_nar o40 10)) (nar_ok o10)
  have o100 := mul_nar (nar_ok (sqs_nar o50 50)) (nar_ok o50)
  have o200 := mul_nar (nar_ok (sqs_nar o100 100)) (nar_ok o100)
  have o250 := mul_nar (nar_ok (sqs_nar o200 50)) (nar_ok o50)
  exact mul_nar (nar_ok (sqs_nar o250 5)) (nar_ok p11)
end MS

namespace Go.Proofs.YtfckjilhkdlpfaaGreatDoor
open Go.RowKit MS
set_option maxRecDepth 100000 in
set_option maxHeartbeats 1000000 in
theorem fesmall_any (x : N5) (n : Nat) (hx : x.ok) (hn : n < 4294967296) (w : World) :
    Calls Tryz.prog 101 #[.agg (nvA x), .int .u32 (n : Int)] w fun e w' => e = .returned (.agg (nvA (mul x ⟨n, 0, 0, 0, 0⟩))) ∧ Below w.heap.size w w' := by
  have M := Lib.hid (fun w => femul_any x ⟨n, 0, 0, 0, 0⟩ hx ⟨by show n < _; omega, by show 0 < _; decide, by show 0 < _; decide, by show 0 < _; decide, by show 0 < _; decide⟩ w)
  have R0 := Lib.hid (rw2 w (nvA x) (rowF (fun _ => 0)))
  have IX := Lib.hid (infoV x)
  have IM := Lib.hid (infoV (mul x ⟨n, 0, 0, 0, 0⟩))
  have OM := Lib.hid (one_nvA (mul x ⟨n, 0, 0, 0, 0⟩))
  have LM := Lib.hid (show (rowF (fun _ => 0)).size = (nvA (mul x ⟨n, 0, 0, 0, 0⟩)).size from rfl)
  have hn0 : (0 : Int) ≤ n := by omega
  have hn1 : (n : Int) ≤ 4294967295 := by omega
  rw [show nvA ⟨n, 0, 0, 0, 0⟩ = #[.int .u64 (n : Int), .int .u64 0, .int .u64 0, .int .u64 0, .int .u64 0] from rfl] at M
  generalize nvA (mul x ⟨n, 0, 0, 0, 0⟩) = rm at M IM OM LM ⊢
  generalize nvA x = rx at M R0 IX ⊢
  clear hx hn
  go_enter Tryz.func101, Tryz.ntmps101
  go_upto_region 1 with fail
  rw [show (w.alloc (.cells rx 94 (0, 0))).alloc (.cells #[.int .u64 0, .int .u64 0, .int .u64 0, .int .u64 0, .int .u64 0] 94 (0, 0)) = (w.alloc (.cells rx 94 (0, 0))).alloc (.cells (rowF (fun _ => 0)) 94 (0, 0)) from rfl]
  generalize (w.alloc (.cells rx 94 (0, 0))).alloc (.cells (rowF (fun _ => 0)) 94 (0, 0)) = W at R0 ⊢
  have RA := Lib.hid (R0.out.row 0)
  go_wp2_with (with_reducible refine wpList_load_row rfl 94 (.tmp 2) rfl w.heap.size rfl 94 rx (0, 0) _ RA.out Tryz.underlying94 rfl IX.out ?_)
  refine (M.out _).mono ?_
  rintro e w5 ⟨rfl, hb5⟩
  have R1 := Lib.hid (R0.out.on hb5)
  have RB := Lib.hid (R1.out.row 1)
  clear hb5
  go_wp2_with (with_reducible refine wpList_store_row rfl 94 (.tmp 4) (.tmp 9) rfl (w.heap.size + 1) rm rfl rfl 94 (rowF (fun _ => 0)) RB.out IM.out LM.out OM.out ?_)
  have R2 := R1.out.store 1 rm
  exact bodyPost_ret (results_cell_row rfl _ _ (w.heap.size + 1) 94 rm (0, 0) _ rfl (R2.row 1) Tryz.underlying94 rfl IM.out) rfl ⟨rfl, R2.bel⟩

theorem sqs_ok {x : N5} (hx : x.ok) (n : Nat) : (sqs x n).ok := by
  induction n with
  | zero => exact hx
  | succ n ih => exact nar_ok (mul_nar ih ih)
set_option maxRecDepth 100000 in
set_option maxHeartbeats 1000000 in
theorem squares_any (x : N5) (n : Nat) (hx : x.ok) (hn : n ≤ 1000) (w : World) :
    Calls Tryz.prog 106 #[.agg (nvA x), .int .i64 (n : Int)] w fun e w' => e = .returned (.agg (nvA (sqs x n))) ∧ Below w.heap.size w w' := by
  have M := Lib.hid (fun k w => femul_any (sqs x k) (sqs x k) (sqs_ok hx k) (sqs_ok hx k) w)
  have R0 := Lib.hid (show Rw w [(w.heap.size, nvA (sqs x 0), 94), (w.heap.size + 1, rowF (fun _ => 0), 94)] ((w.alloc (.cells (nvA x) 94 (0, 0))).alloc (.cells (rowF (fun _ => 0)) 94 (0, 0))) from rw2 w (nvA x) (rowF (fun _ => 0)))
  have HM := Lib.hid (show ∀ k, mul (sqs x k) (sqs x k) = sqs x (k + 1) from fun k => rfl)
  have II := Lib.hid (fun y => infoV y)
  have OO := Lib.hid (fun y => one_nvA y)
  have hn1 : (n : Int) ≤ 1000 := by omega
  have HN := Lib.hid hn
  generalize hs : sqs x = s at M R0 HM ⊢
  clear hs hx hn
  go_enter Tryz.func106, Tryz.ntmps106
  go_upto_region 1 with fail
  rw [show (w.alloc (.cells (nvA x) 94 (0, 0))).alloc (.cells #[.int .u64 0, .int .u64 0, .int .u64 0, .int .u64 0, .int .u64 0] 94 (0, 0)) = (w.alloc (.cells (nvA x) 94 (0, 0))).alloc (.cells (rowF (fun _ => 0)) 94 (0, 0)) from rfl]
  generalize (w.alloc (.cells (nvA x) 94 (0, 0))).alloc (.cells (rowF (fun _ => 0)) 94 (0, 0)) = W at R0 ⊢
  generalize hA : w.heap.size = ga at *
  generalize hB : ga + 1 = gb at *
  clear hA hB
  go_wp2_with fail
  go_loopw [6] (fun c wr => ∃ k : Nat, k ≤ n ∧ c = .int .i64 k ∧ Rw w [(ga, nvA (s k), 94), (gb, rowF (fun _ => 0), 94)] wr) (fun c _ => n - (intOf c).toNat)
  case atStart => exact ⟨0, by omega, rfl, R0.out⟩
  case round =>
    obtain ⟨k, hk, rfl, hr⟩ := hrel
    have R1 := Lib.hid hr
    have RA := Lib.hid (hr.row 0)
    clear hr R0
    by_cases hlt : k < n
    · have k1 : (k : Int) < n := by omega
      have k0 : (0 : Int) ≤ k := by omega
      have HLT := Lib.hid hlt
      have IS := Lib.hid (II.out (s k))
      have IN := Lib.hid (II.out (s (k + 1)))
      have ON := Lib.hid (OO.out (s (k + 1)))
      have LN := Lib.hid (show (nvA (s k)).size = (nvA (s (k + 1))).size from rfl)
      clear hlt hk
      go_wp2_with (with_reducible refine wpList_load_row rfl 94 (.tmp 2) rfl ga rfl 94 (nvA (s k)) (0, 0) _ RA.out Tryz.underlying94 rfl IS.out ?_)
      refine (M.out k _).mono ?_
      rintro e w5 ⟨rfl, hb5⟩
      rw [HM.out k]
      have R2 := Lib.hid (R1.out.on hb5)
      have RB := Lib.hid (R2.out.row 0)
      have R3 := Lib.hid (R2.out.store 0 (nvA (s (k + 1))))
      clear hb5
      go_wp2_with (with_reducible refine wpList_store_row rfl 94 (.tmp 2) (.tmp 10) rfl ga (nvA (s (k + 1))) rfl rfl 94 (nvA (s k)) RB.out IN.out LN.out ON.out ?_)
      go_roundw
      case rel => exact ⟨k + 1, HLT.out, by go_num, R3.out⟩
      case measure => simp [intOf]; omega
    · have k1 : ¬ ((k : Int) < n) := by omega
      have hkn : k = n := by omega
      rw [hkn] at R1 RA
      have RB := Lib.hid (R1.out.row 1)
      have IS := Lib.hid (II.out (s n))
      have OS := Lib.hid (OO.out (s n))
      have LS := Lib.hid (show (rowF (fun _ => 0)).size = (nvA (s n)).size from rfl)
      clear hkn hlt hk
      go_wp2_with (first
        | (with_reducible refine wpList_load_row rfl 94 (.tmp 2) rfl ga rfl 94 (nvA (s n)) (0, 0) _ RA.out Tryz.underlying94 rfl IS.out ?_)
        | (with_reducible refine wpList_store_row rfl 94 (.tmp 4) (.tmp 12) rfl gb (nvA (s n)) rfl rfl 94 (rowF (fun _ => 0)) RB.out IS.out LS.out OS.out ?_))
      have R4 := R1.out.store 1 (nvA (s n))
      exact bodyPost_ret (results_cell_row rfl _ _ gb 94 (nvA (s n)) (0, 0) _ rfl (R4.row 1) Tryz.underlying94 rfl IS.out) rfl ⟨rfl, R4.bel⟩
end Go.Proofs.YtfckjilhkdlpfaaGreatDoor

namespace Go.Proofs.YtfckjilhkdlpfaaGreatDoor
open Go.RowKit MS
theorem xor_all (a : Nat) (h : a < 18446744073709551616) : bits .and .u64 (a : Int) 18446744073709551615 = (a : Int) := by
  have := u64_and_nat a 18446744073709551615 h (by decide)
  rw [show ((18446744073709551615 : Nat) : Int) = 18446744073709551615 from rfl] at this
  rw [this, show (18446744073709551615 : Nat) = 2 ^ 64 - 1 from rfl, Nat.and_two_pow_sub_one_eq_mod, Nat.mod_eq_of_lt h]
section
variable {P : Program}
theorem step_load_row {o : Oper} {a : Act} {w : World} {K : Act → World → Prop} {Q : Exit → Act → World → Prop} {Y : Nat → Option Bool} (hgd : o.guard = none) (ty : TypeId) (x : Operand) (ho : o.op = .load ty x)
    (g : Nat) (hx : a.eval x = .pointer (some ⟨g, 0, none⟩)) (t : TypeId) (cs : Array Value) (fr : Nat × Nat) (d : TypeDesc) (hg : w.heap[g]? = some (.cells cs t fr))
    (hu : P.underlying ty = some d) (hd : (match d with | .struct _ | .array _ _ => true | _ => false) = true) (hi : (P.info? ty).map (·.size) = some cs.size)
    (h : K (a.put o.dst (.agg cs)) w) : if Region.wanted o Y = true then Oper.wp P o a w K Q else K (a.put o.dst undef) w := by
  rw [if_pos (by simp [Region.wanted, hgd])]
  exact wp_load_row ty x ho g hx t cs fr d hg hu hd hi h
theorem step_store_row {o : Oper} {a : Act} {w : World} {K : Act → World → Prop} {Q : Exit → Act → World → Prop} {Y : Nat → Option Bool} (hgd : o.guard = none) (ty : TypeId) (x y : Operand) (ho : o.op = .store ty x y)
    (g : Nat) (cells : Array Value) (hx : a.eval x = .pointer (some ⟨g, 0, none⟩)) (hy : a.eval y = .agg cells)
    (t : TypeId) (old : Array Value) (hg : w.heap[g]? = some (.cells old t (0, 0))) (hi : (P.info? ty).map (·.size) = some cells.size)
    (hold : old.size = cells.size) (h1 : cells.all (·.oneCell') = true)
    (h : K (a.put o.dst undef) (w.setRow g cells)) : if Region.wanted o Y = true then Oper.wp P o a w K Q else K (a.put o.dst undef) w := by
  rw [if_pos (by simp [Region.wanted, hgd])]
  exact wp_store_row ty x y ho g cells hx hy t old hg hi hold h1 h
theorem results_two_rows {fn : Func} {p q : Tmp} {ty tz : TypeId} (h : fn.results = #[.cell p ty, .cell q tz]) (tmps : Array Value) (w : World) (g k : Nat) (t s : TypeId) (cs ds : Array Value) (fr fs : Nat × Nat) (d e : TypeDesc)
    (hp : tmps.getD p undef = .pointer (some ⟨g, 0, none⟩)) (hq : tmps.getD q undef = .pointer (some ⟨k, 0, none⟩)) (hg : w.heap[g]? = some (.cells cs t fr)) (hk : w.heap[k]? = some (.cells ds s fs))
    (hu : P.underlying ty = some d) (hd : (match d with | .struct _ | .array _ _ => true | _ => false) = true) (hi : (P.info? ty).map (·.size) = some cs.size)
    (hv : P.underlying tz = some e) (he : (match e with | .struct _ | .array _ _ => true | _ => false) = true) (hj : (P.info? tz).map (·.size) = some ds.size) :
    (results fn tmps).run P w = .ok (.tuple #[.agg cs, .agg ds]) w := by
  have hp' : tmps[p]?.getD undef = .pointer (some ⟨g, 0, none⟩) := by simpa using hp
  have hq' : tmps[q]?.getD undef = .pointer (some ⟨k, 0, none⟩) := by simpa using hq
  simp [results, h, hp', hq', asAddr, run_loadVar_row w g t ty cs fr d hg hu hd hi, run_loadVar_row w k s tz ds fs e hk hv he hj]
end
theorem all_ones : bits .xor .u64 IntKind.u64.max 0 = 18446744073709551615 := by
  have := u64_xor_nat 18446744073709551615 0 (by decide) (by decide)
  rw [Nat.xor_zero] at this
  exact this
theorem and_none (a : Nat) (h : a < 18446744073709551616) : bits .and .u64 (a : Int) 0 = 0 := by
  have := u64_and_nat a 0 h (by decide)
  rw [Nat.and_zero] at this
  exact this
theorem rw4 (w : World) (r0 r1 r2 r3 : Array Value) : Rw w [(w.heap.size, r0, 94), (w.heap.size + 1, r1, 94), (w.heap.size + 1 + 1, r2, 94), (w.heap.size + 1 + 1 + 1, r3, 94)]
    ((((w.alloc (.cells r0 94 (0, 0))).alloc (.cells r1 94 (0, 0))).alloc (.cells r2 94 (0, 0))).alloc (.cells r3 94 (0, 0))) := by
  have h := ((((Rw.nil w).alloc r0 94).alloc r1 94).alloc r2 94).alloc r3 94
  simpa using h
theorem ok_get {x : N5} (h : x.ok) (j : Nat) : getN x j < 18446744073709551616 := by
  obtain ⟨h1, h2, h3, h4, h5⟩ := h
  unfold getN
  split <;> assumption
def sel (b : Bool) (x y : Nat) : Nat := if b then x else y
/-- What Swap makes of the first and of the second. -/
def swA (x y : N5) (yes : Bool) : N5 := if yes then y else x

set_option maxRecDepth 100000 in
set_option maxHeartbeats 2000000 in
theorem swap_any (x y : N5) (yes : Bool) (hx : x.ok) (hy : y.ok) (w : World) :
    Calls Tryz.prog 98 #[.agg (nvA x), .agg (nvA y), .bool yes] w fun e w' => e = .returned (.tuple #[.agg (nvA (swA x y yes)), .agg (nvA (swA y x yes))]) ∧ Below w.heap.size w w' := by
  have BX := Lib.hid (ok_get hx)
  have BY := Lib.hid (ok_get hy)
  have R0 := Lib.hid (show Rw w [(w.heap.size, rowF (getN x), 94), (w.heap.size + 1, rowF (getN y), 94), (w.heap.size + 1 + 1, rowF (fun _ => 0), 94), (w.heap.size + 1 + 1 + 1, rowF (fun _ => 0), 94)] ((((w.alloc (.cells (nvA x) 94 (0, 0))).alloc (.cells (nvA y) 94 (0, 0))).alloc (.cells #[.int .u64 0, .int .u64 0, .int .u64 0, .int .u64 0, .int .u64 0] 94 (0, 0))).alloc (.cells #[.int .u64 0, .int .u64 0, .int .u64 0, .int .u64 0, .int .u64 0] 94 (0, 0))) from rw4 w (nvA x) (nvA y) (rowF (fun _ => 0)) (rowF (fun _ => 0)))
  have HA := Lib.hid (show rowF (fun i => sel yes (getN y i) (getN x i)) = nvA (swA x y yes) by cases yes <;> rfl)
  have HB := Lib.hid (show rowF (fun i => sel yes (getN x i) (getN y i)) = nvA (swA y x yes) by cases yes <;> rfl)
  have II := Lib.hid (fun y => infoV y)
  have OO := Lib.hid (fun y => one_nvA y)
  generalize swA x y yes = ra at *
  generalize swA y x yes = rb at *
  generalize hrx : nvA x = rx at *
  generalize hry : nvA y = ry at *
  generalize hX : getN x = X at *
  generalize hY : getN y = Y at *
  clear hrx hry hX hY hx hy
  have hsg : ¬ (IntKind.u64.signed = true) := by decide
  obtain ⟨AL, hAL⟩ : ∃ AL : Int, bits .xor .u64 IntKind.u64.max 0 = AL := ⟨_, rfl⟩
  have PAL := Lib.hid (show ∀ a : Nat, a < 18446744073709551616 → bits .and .u64 (a : Int) AL = (a : Int) from fun a h => by rw [← hAL, all_ones]; exact xor_all a h)
  by_cases hyes : yes = true
  case' pos =>
    rw [hyes]
    have HYE := Lib.hid hyes
    clear hyes
    go_enter Tryz.func98, Tryz.ntmps98
    go_upto_region 1 with fail
    generalize (((w.alloc (.cells rx 94 (0, 0))).alloc (.cells ry 94 (0, 0))).alloc (.cells #[.int .u64 0, .int .u64 0, .int .u64 0, .int .u64 0, .int .u64 0] 94 (0, 0))).alloc (.cells #[.int .u64 0, .int .u64 0, .int .u64 0, .int .u64 0, .int .u64 0] 94 (0, 0)) = W at R0 ⊢
    go_wp2_with fail
    have PM := Lib.hid (show ∀ a : Nat, a < 18446744073709551616 → bits .and .u64 (a : Int) AL = ((sel yes a 0 : Nat) : Int) from fun a h => by rw [HYE.out]; exact PAL.out a h)
    generalize AL = M at PM ⊢
  case' neg =>
    have hyes' : yes = false := by simpa using hyes
    rw [hyes']
    have HYE := Lib.hid hyes'
    clear hyes hyes'
    go_enter Tryz.func98, Tryz.ntmps98
    go_upto_region 1 with fail
    generalize (((w.alloc (.cells rx 94 (0, 0))).alloc (.cells ry 94 (0, 0))).alloc (.cells #[.int .u64 0, .int .u64 0, .int .u64 0, .int .u64 0, .int .u64 0] 94 (0, 0))).alloc (.cells #[.int .u64 0, .int .u64 0, .int .u64 0, .int .u64 0, .int .u64 0] 94 (0, 0)) = W at R0 ⊢
    go_wp2_with fail
    have PM := Lib.hid (show ∀ a : Nat, a < 18446744073709551616 → bits .and .u64 (a : Int) 0 = ((sel yes a 0 : Nat) : Int) from fun a h => by rw [HYE.out]; exact and_none a h)
    obtain ⟨M, hM⟩ : ∃ M : Int, (0 : Int) = M := ⟨_, rfl⟩
    rw [hM] at PM
    have HM0 := Lib.hid hM
    rw [show Value.int IntKind.u64 0 = Value.int IntKind.u64 M from by rw [hM]]
    clear hM
  all_goals
    clear hAL PAL hsg
    generalize hga : w.heap.size = ga at *
    generalize hgb : ga + 1 = gb at *
    generalize hgc : gb + 1 = gc at *
    generalize hgd : gc + 1 = gd at *
    clear hga hgb hgc hgd
    go_loopw [14] (fun c wr => ∃ j : Nat, j ≤ 5 ∧ c = .int .i64 j ∧ Rw w [(ga, rowF (prog X (fun i => sel yes (Y i) (X i)) j), 94), (gb, rowF (prog Y (fun i => sel yes (X i) (Y i)) j), 94), (gc, rowF (fun _ => 0), 94), (gd, rowF (fun _ => 0), 94)] wr) (fun c _ => 5 - (intOf c).toNat)
    case atStart => exact ⟨0, by omega, rfl, by rw [prog_zero, prog_zero]; exact R0.out⟩
    case round =>
      obtain ⟨j, hj, rfl, hr⟩ := hrel
      have R1 := Lib.hid hr
      clear hr R0
      by_cases hlt : j < 5
      · have j1 : (j : Int) < 5 := by omega
        have j0 : (0 : Int) ≤ j := by omega
        have HLT := Lib.hid hlt
        have ca := R1.out.cell 0 j (rowF_get _ _ hlt)
        have cb := R1.out.cell 1 j (rowF_get _ _ hlt)
        rw [prog_at] at ca cb
        have bx := BX.out j
        have bb := BY.out j
        obtain ⟨x1, hx1⟩ : ∃ c, X j ^^^ Y j = c := ⟨_, rfl⟩
        have q1 := u64_xor_nat (X j) (Y j) bx bb
        rw [hx1] at q1
        have bx1 : x1 < 18446744073709551616 := by rw [← hx1]; exact Nat.xor_lt_two_pow (n := 64) bx bb
        obtain ⟨d, hd⟩ : ∃ d, sel yes x1 0 = d := ⟨_, rfl⟩
        have q2 := PM.out x1 bx1
        rw [hd] at q2
        have bd : d < 18446744073709551616 := by rw [← hd, sel]; split; exact bx1; decide
        have q3 := u64_xor_nat (X j) d bx bd
        have q4 := u64_xor_nat (Y j) d bb bd
        have e3 : X j ^^^ d = sel yes (Y j) (X j) := by
          rw [← hd, ← hx1]
          cases yes
          · simp [sel]
          · simp [sel, ← Nat.xor_assoc]
        have e4 : Y j ^^^ d = sel yes (X j) (Y j) := by
          rw [← hd, ← hx1]
          cases yes
          · simp [sel]
          · simp [sel, Nat.xor_comm (X j), ← Nat.xor_assoc]
        rw [e3] at q3
        rw [e4] at q4
        clear e3 e4 hd hx1 bx bb bx1 bd
        have Q3 := Lib.hid q3
        have Q4 := Lib.hid q4
        clear q3 q4
        go_wp2_with fail
        go_quiet (fail)
        have R2 := Lib.hid (R1.out.drewN nq)
        generalize wr.drewN nq = w8 at R2 ⊢
        clear q1 q2 ca cb
        have ca := R2.out.cell 0 j (rowF_get _ _ HLT.out)
        rw [prog_at] at ca
        have fa := R2.out.free 0 j
        have q3 := Q3.out
        have put := R2.out.put 0 j (.int .u64 ((sel yes (Y j) (X j) : Nat) : Int))
        have cb := put.cell 1 j (rowF_get _ _ HLT.out)
        rw [prog_at] at cb
        have fb := put.free 1 j
        have q4 := Q4.out
        have put2 := put.put 1 j (.int .u64 ((sel yes (X j) (Y j) : Nat) : Int))
        rw [rowF_set _ _ _ HLT.out, rowF_set _ _ _ HLT.out, prog_set X (fun i => sel yes (Y i) (X i)) j, prog_set Y (fun i => sel yes (X i) (Y i)) j] at put2
        have PUT := Lib.hid put2
        generalize sel yes (Y j) (X j) = xa at *
        generalize sel yes (X j) (Y j) = ya at *
        clear put put2
        go_wp2_with fail
        go_roundw
        case rel => exact ⟨j + 1, HLT.out, by go_num, PUT.out⟩
        case measure => simp [intOf]; omega
      · have j1 : ¬ ((j : Int) < 5) := by omega
        have hj5 : j = 5 := by omega
        have r2 := R1.out
        rw [hj5, prog_end, prog_end, HA.out, HB.out] at r2
        have R2 := Lib.hid r2
        clear r2 hj5 hlt hj R1
        have IA := Lib.hid (II.out ra)
        have IB := Lib.hid (II.out rb)
        have OA := Lib.hid (OO.out ra)
        have OB := Lib.hid (OO.out rb)
        have LA := Lib.hid (show (rowF (fun _ => 0)).size = (nvA ra).size from rfl)
        have LB := Lib.hid (show (rowF (fun _ => 0)).size = (nvA rb).size from rfl)
        have RA := Lib.hid (R2.out.row 0)
        have RB := Lib.hid (R2.out.row 1)
        have RC := Lib.hid (R2.out.drew.row 2)
        have R3 := Lib.hid (R2.out.drew.store 2 (nvA ra))
        have RB3 := Lib.hid (R3.out.row 1)
        have RD := Lib.hid (R3.out.row 3)
        have R4 := Lib.hid (R3.out.store 3 (nvA rb))
        go_wp2_with fail
        refine wp_region_any (by kernel_rfl) ?_
        change wpAny _ _ _ _ _ _ _ (World.drew _)
        refine wpAny_ready (rs := [0, 1]) (by kernel_rfl) (by simp) ?_
        refine AllReady.cons rfl (fun K hK => ?_) (AllReady.cons rfl (fun K hK => ?_) AllReady.nil)
        · skip
          refine step_load_row (by rfl) 94 (.tmp 3) (by rfl) ga (by rfl) 94 (nvA ra) (0, 0) _ RA.out Tryz.underlying94 rfl IA.out (hK _ _ ?_)
          clear hK K
          simp only [List.getElem_toArray, List.getElem_cons_zero, Act.put, List.setIfInBounds_toArray, List.set_cons_zero, List.set_cons_succ]
          refine wpAny_ready (rs := [1, 2]) (by kernel_rfl) (by simp) ?_
          refine AllReady.cons rfl (fun K hK => ?_) (AllReady.cons rfl (fun K hK => ?_) AllReady.nil)
          · skip
            refine step_load_row (by rfl) 94 (.tmp 4) (by rfl) gb (by rfl) 94 (nvA rb) (0, 0) _ RB.out Tryz.underlying94 rfl IB.out (hK _ _ ?_)
            clear hK K
            simp only [List.getElem_toArray, List.getElem_cons_zero, List.getElem_cons_succ, Act.put, List.setIfInBounds_toArray, List.set_cons_zero, List.set_cons_succ]
            refine wpAny_ready (rs := [2]) (by kernel_rfl) (by simp) ?_
            refine AllReady.cons rfl (fun K hK => ?_) AllReady.nil
            refine step_store_row (by rfl) 94 (.tmp 6) (.tmp 39) (by rfl) gc (nvA ra) (by rfl) (by rfl) 94 (rowF (fun _ => 0)) RC.out IA.out LA.out OA.out (hK _ _ ?_)
            clear hK K
            simp only [List.getElem_toArray, List.getElem_cons_zero, List.getElem_cons_succ, Act.put]
            refine wpAny_ready (rs := [3]) (by kernel_rfl) (by simp) ?_
            refine AllReady.cons rfl (fun K hK => ?_) AllReady.nil
            refine step_store_row (by rfl) 94 (.tmp 7) (.tmp 40) (by rfl) gd (nvA rb) (by rfl) (by rfl) 94 (rowF (fun _ => 0)) RD.out IB.out LB.out OB.out (hK _ _ ?_)
            clear hK K
            simp only [List.getElem_toArray, List.getElem_cons_zero, List.getElem_cons_succ, Act.put]
            refine wpAny_done (by kernel_rfl) ?_ _
            go_wp2_with fail
            exact bodyPost_ret (results_two_rows rfl _ _ gc gd 94 94 (nvA ra) (nvA rb) (0, 0) (0, 0) _ _ rfl rfl (R4.out.row 2) (R4.out.row 3) Tryz.underlying94 rfl IA.out Tryz.underlying94 rfl IB.out) rfl ⟨rfl, R4.out.bel⟩
          · skip
            refine step_store_row (by rfl) 94 (.tmp 6) (.tmp 39) (by rfl) gc (nvA ra) (by rfl) (by rfl) 94 (rowF (fun _ => 0)) RC.out IA.out LA.out OA.out (hK _ _ ?_)
            clear hK K
            simp only [List.getElem_toArray, List.getElem_cons_zero, List.getElem_cons_succ, Act.put]
            refine wpAny_ready (rs := [1]) (by kernel_rfl) (by simp) ?_
            refine AllReady.cons rfl (fun K hK => ?_) AllReady.nil
            refine step_load_row (by rfl) 94 (.tmp 4) (by rfl) gb (by rfl) 94 (nvA rb) (0, 0) _ RB3.out Tryz.underlying94 rfl IB.out (hK _ _ ?_)
            clear hK K
            simp only [List.getElem_toArray, List.getElem_cons_zero, List.getElem_cons_succ, Act.put, List.setIfInBounds_toArray, List.set_cons_zero, List.set_cons_succ]
            refine wpAny_ready (rs := [3]) (by kernel_rfl) (by simp) ?_
            refine AllReady.cons rfl (fun K hK => ?_) AllReady.nil
            refine step_store_row (by rfl) 94 (.tmp 7) (.tmp 40) (by rfl) gd (nvA rb) (by rfl) (by rfl) 94 (rowF (fun _ => 0)) RD.out IB.out LB.out OB.out (hK _ _ ?_)
            clear hK K
            simp only [List.getElem_toArray, List.getElem_cons_zero, List.getElem_cons_succ, Act.put]
            refine wpAny_done (by kernel_rfl) ?_ _
            go_wp2_with fail
            exact bodyPost_ret (results_two_rows rfl _ _ gc gd 94 94 (nvA ra) (nvA rb) (0, 0) (0, 0) _ _ rfl rfl (R4.out.row 2) (R4.out.row 3) Tryz.underlying94 rfl IA.out Tryz.underlying94 rfl IB.out) rfl ⟨rfl, R4.out.bel⟩
        · skip
          refine step_load_row (by rfl) 94 (.tmp 4) (by rfl) gb (by rfl) 94 (nvA rb) (0, 0) _ RB.out Tryz.underlying94 rfl IB.out (hK _ _ ?_)
          clear hK K
          simp only [List.getElem_toArray, List.getElem_cons_zero, List.getElem_cons_succ, Act.put, List.setIfInBounds_toArray, List.set_cons_zero, List.set_cons_succ]
          refine wpAny_ready (rs := [0]) (by kernel_rfl) (by simp) ?_
          refine AllReady.cons rfl (fun K hK => ?_) AllReady.nil
          refine step_load_row (by rfl) 94 (.tmp 3) (by rfl) ga (by rfl) 94 (nvA ra) (0, 0) _ RA.out Tryz.underlying94 rfl IA.out (hK _ _ ?_)
          clear hK K
          simp only [List.getElem_toArray, List.getElem_cons_zero, Act.put, List.setIfInBounds_toArray, List.set_cons_zero, List.set_cons_succ]
          refine wpAny_ready (rs := [2]) (by kernel_rfl) (by simp) ?_
          refine AllReady.cons rfl (fun K hK => ?_) AllReady.nil
          refine step_store_row (by rfl) 94 (.tmp 6) (.tmp 39) (by rfl) gc (nvA ra) (by rfl) (by rfl) 94 (rowF (fun _ => 0)) RC.out IA.out LA.out OA.out (hK _ _ ?_)
          clear hK K
          simp only [List.getElem_toArray, List.getElem_cons_zero, List.getElem_cons_succ, Act.put]
          refine wpAny_ready (rs := [3]) (by kernel_rfl) (by simp) ?_
          refine AllReady.cons rfl (fun K hK => ?_) AllReady.nil
          refine step_store_row (by rfl) 94 (.tmp 7) (.tmp 40) (by rfl) gd (nvA rb) (by rfl) (by rfl) 94 (rowF (fun _ => 0)) RD.out IB.out LB.out OB.out (hK _ _ ?_)
          clear hK K
          simp only [List.getElem_toArray, List.getElem_cons_zero, List.getElem_cons_succ, Act.put]
          refine wpAny_done (by kernel_rfl) ?_ _
          go_wp2_with fail
          exact bodyPost_ret (results_two_rows rfl _ _ gc gd 94 94 (nvA ra) (nvA rb) (0, 0) (0, 0) _ _ rfl rfl (R4.out.row 2) (R4.out.row 3) Tryz.underlying94 rfl IA.out Tryz.underlying94 rfl IB.out) rfl ⟨rfl, R4.out.bel⟩
end Go.Proofs.YtfckjilhkdlpfaaGreatDoor

namespace MS
open Go Go.RowKit
/-- 32 bytes, the lowest first. -/
def le32 (v : Nat) : List UInt8 := (List.range 32).map fun i => UInt8.ofNat (v / 2 ^ (8 * i) % 256)
theorem length_le32 (v : Nat) : (le32 v).length = 32 := by simp [le32]
def wd (v j : Nat) : Nat := v / 2 ^ (64 * j) % 18446744073709551616
theorem wd_byte (v i : Nat) : wd v (i / 8) / 2 ^ (8 * (i % 8)) % 256 = v / 2 ^ (8 * i) % 256 := by
  unfold wd
  have h8 : i % 8 < 8 := Nat.mod_lt _ (by decide)
  have e : 8 * i = 64 * (i / 8) + 8 * (i % 8) := by omega
  rw [e, Nat.pow_add, ← Nat.div_div_eq_div_mul]
  generalize v / 2 ^ (64 * (i / 8)) = x
  have hc : i % 8 = 0 ∨ i % 8 = 1 ∨ i % 8 = 2 ∨ i % 8 = 3 ∨ i % 8 = 4 ∨ i % 8 = 5 ∨ i % 8 = 6 ∨ i % 8 = 7 := by omega
  rcases hc with h | h | h | h | h | h | h | h <;> rw [h] <;> omega
theorem N5.lst_words {x : N5} (h : x.lst) : wd x.v 0 = x.a + 2251799813685248 * (x.b % 8192) ∧ wd x.v 1 = x.b / 8192 + 274877906944 * (x.c % 67108864) ∧ wd x.v 2 = x.c / 67108864 + 33554432 * (x.d % 549755813888) ∧ wd x.v 3 = x.d / 549755813888 + 4096 * x.e := by
  obtain ⟨a, b, c, d, e⟩ := x
  obtain ⟨h1, h2, h3, h4, h5⟩ := h
  simp only at h1 h2 h3 h4 h5
  simp only [wd, N5.v]
  refine ⟨?_, ?_, ?_, ?_⟩ <;> omega
/-- A row of 32 bytes. -/
def bRow (f : Nat → Nat) : Array Value := ((List.range 32).map fun i => Value.int .u8 (f i : Nat)).toArray
theorem bRow_get (f : Nat → Nat) (j : Nat) (h : j < 32) : (bRow f)[j]? = some (.int .u8 (f j : Nat)) := by simp [bRow, h]
theorem bRow_set (f : Nat → Nat) (j v : Nat) : (bRow f).setIfInBounds j (.int .u8 (v : Nat)) = bRow (upd f j v) := by
  apply Array.ext
  · simp [bRow]
  · intro i h1 h2
    have h3 : i < 32 := by simpa [bRow] using h2
    rw [Array.getElem_setIfInBounds (by simpa [bRow] using h3)]
    by_cases e : j = i
    · subst e; simp [bRow, upd]
    · rw [if_neg e]; simp [bRow, upd, Ne.symm e]
end MS
namespace Go.Proofs.YtfckjilhkdlpfaaGreatDoor
open Go.RowKit MS
/-- A number's bytes. -/
def feB (x : N5) : ByteArray := bs (le32 (x.v % Q'))
theorem or_add (k : Nat) (a b : Nat) (ha : a < 2 ^ k) : a ||| b * 2 ^ k = a + b * 2 ^ k := by
  rw [Nat.or_comm, ← Nat.shiftLeft_eq, ← Nat.shiftLeft_add_eq_or_of_lt ha, Nat.add_comm]

theorem or_words (k lo hi : Nat) (hlo : lo < 2 ^ k) (hs : lo + hi * 2 ^ k < 18446744073709551616) : bits .or .u64 (lo : Int) ((hi * 2 ^ k : Nat) : Int) = ((lo + hi * 2 ^ k : Nat) : Int) := by
  rw [u64_or_nat lo (hi * 2 ^ k) (by omega) (by omega), or_add k lo hi hlo]
def wdRow (v : Nat) : Array Value := #[.int .u64 (wd v 0 : Nat), .int .u64 (wd v 1 : Nat), .int .u64 (wd v 2 : Nat), .int .u64 (wd v 3 : Nat)]
theorem wdRow_get (v q : Nat) (h : q < 4) : (wdRow v)[q]? = some (.int .u64 (wd v q : Nat)) := by
  have : q = 0 ∨ q = 1 ∨ q = 2 ∨ q = 3 := by omega
  rcases this with rfl | rfl | rfl | rfl <;> rfl
def byF (v i : Nat) : Nat := v / 2 ^ (8 * i) % 256
theorem bRow_end (F G : Nat → Nat) : bRow (prog F G 32) = bRow G := by
  unfold bRow
  refine congrArg List.toArray (List.map_congr_left ?_)
  intro i hi
  rw [prog, if_pos (List.mem_range.1 hi)]
theorem conv_bRow (w : World) (g : Nat) (T : TypeId) (v : Nat) (hb : w.heap[g]? = some (.cells (bRow (byF v)) T (0, 0))) :
    (convert 83 9 (.slice (some ⟨g, 0, none⟩) 32 32)).run Tryz.prog w = .ok (.string (bs (le32 v))) w :=
  run_block_to_string w 83 9 5 Tryz.underlying83 Tryz.underlying5 Tryz.underlying9 g 32 32 T (0, 0) (le32 v) (cs := bRow (byF v)) hb (length_le32 v) (fun j hj => by
    have h32 : j < 32 := by rwa [length_le32] at hj
    rw [bRow_get _ _ h32]
    simp [le32, byF])
theorem bRow_zero : bRow (fun _ => 0) = #[.int .u8 0, .int .u8 0, .int .u8 0, .int .u8 0, .int .u8 0, .int .u8 0, .int .u8 0, .int .u8 0, .int .u8 0, .int .u8 0, .int .u8 0, .int .u8 0, .int .u8 0, .int .u8 0, .int .u8 0, .int .u8 0, .int .u8 0, .int .u8 0, .int .u8 0, .int .u8 0, .int .u8 0, .int .u8 0, .int .u8 0, .int .u8 0, .int .u8 0, .int .u8 0, .int .u8 0, .int .u8 0, .int .u8 0, .int .u8 0, .int .u8 0, .int .u8 0] := rfl
set_option maxRecDepth 100000 in
set_option maxHeartbeats 2000000 in
theorem febytes_any (x : N5) (hx : x.ok) (w : World) :
    Calls Tryz.prog 71 #[.agg (nvA x)] w fun e w' => e = .returned (.string (feB x)) ∧ Below w.heap.size w w' := by
  have NX := Lib.hid (fun w => least_any x hx w)
  have R0 := Lib.hid (show Rw w [(w.heap.size, nvA x, 94)] (w.alloc (.cells (nvA x) 94 (0, 0))) from (Rw.nil w).alloc (nvA x) 94)
  have IX := Lib.hid (infoV x)
  have IL := Lib.hid (infoV (least x))
  have OL := Lib.hid (one_nvA (least x))
  have LX := Lib.hid (show (nvA x).size = (nvA (least x)).size from rfl)
  have HW := Lib.hid (N5.lst_words (least_lst x))
  have HB := Lib.hid (least_lst x)
  have HR := Lib.hid (show feB x = bs (le32 (least x).v) by rw [feB, least_v hx])
  generalize nvA x = rx at *
  generalize least x = y at *
  generalize feB x = R at *
  clear hx
  go_enter Tryz.func71, Tryz.ntmps71
  go_upto_region 1 with fail
  generalize w.alloc (.cells rx 94 (0, 0)) = W at R0 ⊢
  have RA := Lib.hid (R0.out.row 0)
  go_wp2_with (with_reducible refine wpList_load_row rfl 94 (.tmp 1) rfl w.heap.size rfl 94 rx (0, 0) _ RA.out Tryz.underlying94 rfl IX.out ?_)
  refine (NX.out _).mono ?_
  rintro e w5 ⟨rfl, hb5⟩
  have R1 := Lib.hid (R0.out.on hb5)
  have RW1 := Lib.hid (R1.out.row 0)
  have R2 := Lib.hid (R1.out.store 0 (nvA y))
  clear hb5
  go_upto_region 2 with (with_reducible refine wpList_store_row rfl 94 (.tmp 1) (.tmp 7) rfl w.heap.size (nvA y) rfl rfl 94 rx RW1.out IL.out LX.out OL.out ?_)
  have r3 := R2.out
  simp only [List.set_cons_zero] at r3
  generalize World.setRow w5 _ (nvA y) = w6 at r3 ⊢
  generalize w.heap.size = ga at *
  obtain ⟨a, b, c, d, e⟩ := y
  obtain ⟨h1, h2, h3, h4, h5⟩ := HB.out
  obtain ⟨v0, v1, v2, v3⟩ := HW.out
  simp only at h1 h2 h3 h4 h5 v0 v1 v2 v3
  have c0 := r3.cell 0 0 (cs := nvA ⟨a, b, c, d, e⟩) (v := .int .u64 (a : Int)) rfl
  have c1 := r3.cell 0 1 (cs := nvA ⟨a, b, c, d, e⟩) (v := .int .u64 (b : Int)) rfl
  have c2 := r3.cell 0 2 (cs := nvA ⟨a, b, c, d, e⟩) (v := .int .u64 (c : Int)) rfl
  have c3 := r3.cell 0 3 (cs := nvA ⟨a, b, c, d, e⟩) (v := .int .u64 (d : Int)) rfl
  have c4 := r3.cell 0 4 (cs := nvA ⟨a, b, c, d, e⟩) (v := .int .u64 (e : Int)) rfl
  have e0 := or_words 51 a (b % 8192) (by omega) (by omega)
  have e1 := or_words 38 (b / 8192) (c % 67108864) (by omega) (by omega)
  have e2 := or_words 25 (c / 67108864) (d % 549755813888) (by omega) (by omega)
  have e3 := or_words 12 (d / 549755813888) e (by omega) (by omega)
  have f0 : IntKind.u64.wrap ((b : Int) * 2251799813685248) = ((b % 8192 * 2 ^ 51 : Nat) : Int) := by rw [IntKind.wrap_u64]; omega
  have f1 : IntKind.u64.wrap ((c : Int) * 274877906944) = ((c % 67108864 * 2 ^ 38 : Nat) : Int) := by rw [IntKind.wrap_u64]; omega
  have f2 : IntKind.u64.wrap ((d : Int) * 33554432) = ((d % 549755813888 * 2 ^ 25 : Nat) : Int) := by rw [IntKind.wrap_u64]; omega
  have f3 : (e : Int) * 4096 = ((e * 2 ^ 12 : Nat) : Int) := by omega
  have g1 : (b : Int) / 8192 = ((b / 8192 : Nat) : Int) := by omega
  have g2 : (c : Int) / 67108864 = ((c / 67108864 : Nat) : Int) := by omega
  have g3 : (d : Int) / 549755813888 = ((d / 549755813888 : Nat) : Int) := by omega
  rw [show a + b % 8192 * 2 ^ 51 = wd (N5.v ⟨a, b, c, d, e⟩) 0 by rw [v0]; omega] at e0
  rw [show b / 8192 + c % 67108864 * 2 ^ 38 = wd (N5.v ⟨a, b, c, d, e⟩) 1 by rw [v1]; omega] at e1
  rw [show c / 67108864 + d % 549755813888 * 2 ^ 25 = wd (N5.v ⟨a, b, c, d, e⟩) 2 by rw [v2]; omega] at e2
  rw [show d / 549755813888 + e * 2 ^ 12 = wd (N5.v ⟨a, b, c, d, e⟩) 3 by rw [v3]; omega] at e3
  rw [← f0] at e0
  rw [← f1, ← g1] at e1
  rw [← f2, ← g2] at e2
  rw [← f3, ← g3] at e3
  have E0 := Lib.hid e0
  have E1 := Lib.hid e1
  have E2 := Lib.hid e2
  have E3 := Lib.hid e3
  clear e0 e1 e2 e3 f0 f1 f2 f3 g1 g2 g3 v0 v1 v2 v3
  go_wp2_with fail
  rw [E0.out, E1.out, E2.out, E3.out]
  generalize N5.v ⟨a, b, c, d, e⟩ = v at *
  have r5 := (r3.alloc #[.int .u64 (wd v 0 : Nat), .int .u64 (wd v 1 : Nat), .int .u64 (wd v 2 : Nat), .int .u64 (wd v 3 : Nat)] 128).alloc (bRow (fun _ => 0)) 114
  rw [World.size_alloc, bRow_zero] at r5
  generalize (w6.alloc (.cells #[.int .u64 (wd v 0 : Nat), .int .u64 (wd v 1 : Nat), .int .u64 (wd v 2 : Nat), .int .u64 (wd v 3 : Nat)] 128 (0, 0))).alloc (.cells #[.int .u8 0, .int .u8 0, .int .u8 0, .int .u8 0, .int .u8 0, .int .u8 0, .int .u8 0, .int .u8 0, .int .u8 0, .int .u8 0, .int .u8 0, .int .u8 0, .int .u8 0, .int .u8 0, .int .u8 0, .int .u8 0, .int .u8 0, .int .u8 0, .int .u8 0, .int .u8 0, .int .u8 0, .int .u8 0, .int .u8 0, .int .u8 0, .int .u8 0, .int .u8 0, .int .u8 0, .int .u8 0, .int .u8 0, .int .u8 0, .int .u8 0, .int .u8 0] 114 (0, 0)) = w7 at r5 ⊢
  rw [← bRow_zero] at r5
  generalize w6.heap.size + 1 = go at *
  generalize w6.heap.size = gw at *
  have R5 := Lib.hid (show Rw w [(gw, wdRow v, 128), (go, bRow (fun _ => 0), 114)] w7 from r5.drop)
  clear r3 r5 c0 c1 c2 c3 c4 h1 h2 h3 h4 h5 R0 R1 R2 RA RW1 NX IX IL OL LX HW HB E0 E1 E2 E3
  go_loopw [36] (fun c wr => ∃ j : Nat, j ≤ 32 ∧ c = .int .i64 j ∧ Rw w [(gw, wdRow v, 128), (go, bRow (prog (fun _ => 0) (byF v) j), 114)] wr) (fun c _ => 32 - (intOf c).toNat)
  case atStart => exact ⟨0, by omega, rfl, by rw [prog_zero]; exact R5.out⟩
  case round =>
    obtain ⟨j, hj, rfl, hr⟩ := hrel
    have R6 := Lib.hid hr
    clear hr R5
    by_cases hlt : j < 32
    · have j1 : (j : Int) < 32 := by omega
      have j0 : (0 : Int) ≤ j := by omega
      have HLT := Lib.hid hlt
      obtain ⟨q, hq⟩ : ∃ q, j / 8 = q := ⟨_, rfl⟩
      obtain ⟨r, hr⟩ : ∃ r, j % 8 = r := ⟨_, rfl⟩
      have q4 : q < 4 := by omega
      have r8 : r = 0 ∨ r = 1 ∨ r = 2 ∨ r = 3 ∨ r = 4 ∨ r = 5 ∨ r = 6 ∨ r = 7 := by omega
      have qj : (j : Int) / 8 = (q : Int) := by omega
      have rj : (j : Int) % 8 = (r : Int) := by omega
      have qn : (0 : Int) ≤ q := by omega
      have qi : (q : Int) < 4 := by omega
      have cw := R6.out.cell 0 q (wdRow_get v q q4)
      have co := R6.out.cell 1 j (bRow_get _ j hlt)
      have fo := R6.out.free 1 j
      have put := R6.out.put 1 j (.int .u8 (byF v j : Nat))
      rw [bRow_set, prog_set] at put
      have PUT := Lib.hid put
      have wb := wd_byte v j
      rw [hq, hr, show v / 2 ^ (8 * j) % 256 = byF v j from rfl] at wb
      generalize wd v q = W0 at cw wb
      generalize byF v j = B0 at PUT wb put
      clear put hlt hj hq hr q4
      rcases r8 with rfl | rfl | rfl | rfl | rfl | rfl | rfl | rfl
      · have rk : (j : Int) % 8 = 0 := rj
        have vb : (W0 : Int) % 256 = (B0 : Int) := by rw [show (2 : Nat) ^ (8 * 0) = 1 from rfl] at wb; omega
        clear rj wb
        go_wp2_with fail
        go_roundw
        case rel => exact ⟨j + 1, HLT.out, by go_num, PUT.out⟩
        case measure => simp [intOf]; omega
      · have rk : (j : Int) % 8 = 1 := rj
        have vb : (W0 : Int) / 256 % 256 = (B0 : Int) := by rw [show (2 : Nat) ^ (8 * 1) = 256 from rfl] at wb; omega
        clear rj wb
        go_wp2_with fail
        go_roundw
        case rel => exact ⟨j + 1, HLT.out, by go_num, PUT.out⟩
        case measure => simp [intOf]; omega
      · have rk : (j : Int) % 8 = 2 := rj
        have vb : (W0 : Int) / 65536 % 256 = (B0 : Int) := by rw [show (2 : Nat) ^ (8 * 2) = 65536 from rfl] at wb; omega
        clear rj wb
        go_wp2_with fail
        go_roundw
        case rel => exact ⟨j + 1, HLT.out, by go_num, PUT.out⟩
        case measure => simp [intOf]; omega
      · have rk : (j : Int) % 8 = 3 := rj
        have vb : (W0 : Int) / 16777216 % 256 = (B0 : Int) := by rw [show (2 : Nat) ^ (8 * 3) = 16777216 from rfl] at wb; omega
        clear rj wb
        go_wp2_with fail
        go_roundw
        case rel => exact ⟨j + 1, HLT.out, by go_num, PUT.out⟩
        case measure => simp [intOf]; omega
      · have rk : (j : Int) % 8 = 4 := rj
        have vb : (W0 : Int) / 4294967296 % 256 = (B0 : Int) := by rw [show (2 : Nat) ^ (8 * 4) = 4294967296 from rfl] at wb; omega
        clear rj wb
        go_wp2_with fail
        go_roundw
        case rel => exact ⟨j + 1, HLT.out, by go_num, PUT.out⟩
        case measure => simp [intOf]; omega
      · have rk : (j : Int) % 8 = 5 := rj
        have vb : (W0 : Int) / 1099511627776 % 256 = (B0 : Int) := by rw [show (2 : Nat) ^ (8 * 5) = 1099511627776 from rfl] at wb; omega
        clear rj wb
        go_wp2_with fail
        go_roundw
        case rel => exact ⟨j + 1, HLT.out, by go_num, PUT.out⟩
        case measure => simp [intOf]; omega
      · have rk : (j : Int) % 8 = 6 := rj
        have vb : (W0 : Int) / 281474976710656 % 256 = (B0 : Int) := by rw [show (2 : Nat) ^ (8 * 6) = 281474976710656 from rfl] at wb; omega
        clear rj wb
        go_wp2_with fail
        go_roundw
        case rel => exact ⟨j + 1, HLT.out, by go_num, PUT.out⟩
        case measure => simp [intOf]; omega
      · have rk : (j : Int) % 8 = 7 := rj
        have vb : (W0 : Int) / 72057594037927936 % 256 = (B0 : Int) := by rw [show (2 : Nat) ^ (8 * 7) = 72057594037927936 from rfl] at wb; omega
        clear rj wb
        go_wp2_with fail
        go_roundw
        case rel => exact ⟨j + 1, HLT.out, by go_num, PUT.out⟩
        case measure => simp [intOf]; omega
    · have j1 : ¬ ((j : Int) < 32) := by omega
      have hj32 : j = 32 := by omega
      have r7 := R6.out
      rw [hj32, bRow_end] at r7
      have hcv := conv_bRow wr go 114 v (r7.row 1)
      rw [← HR.out] at hcv
      have HBB := Lib.hid r7.bel
      clear r7 hj32 hlt hj R6
      go_wp2_with fail
      go_ret
      exact ⟨rfl, HBB.out⟩
end Go.Proofs.YtfckjilhkdlpfaaGreatDoor

namespace MS
def em (x y : N5) : Prop := x.v % Q' = y.v % Q'
theorem em_sub_add (a : N5) {b : N5} (hb : b.ok) : em (add (sub a b) b) a := by unfold em; rw [add_mod]; exact sub_mod hb
def n0 : N5 := ⟨0, 0, 0, 0, 0⟩
theorem n0_ok : n0.ok := by unfold n0 N5.ok; simp
end MS
namespace Go.Proofs.YtfckjilhkdlpfaaGreatDoor
open Go.RowKit MS
theorem add_ok {x y : N5} (hx : x.ok) (hy : y.ok) : (add x y).ok := nar_ok (add_nar hx hy)
theorem sub_ok {x y : N5} (hx : x.ok) : (sub x y).ok := nar_ok (sub_nar hx)
theorem mul_ok {x y : N5} (hx : x.ok) (hy : y.ok) : (mul x y).ok := nar_ok (mul_nar hx hy)
theorem quiet_load_row {P : Program} {C : World → Prop} {K : Act → Prop} {a : Act} {o : Oper} (ty : TypeId) (x : Operand) (ho : o.op = .load ty x)
    (g : Nat) (hx : a.eval x = .pointer (some ⟨g, 0, none⟩)) (t : TypeId) (cs : Array Value) (fr : Nat × Nat) (d : TypeDesc) (hC : ∀ w, C w → w.heap[g]? = some (.cells cs t fr))
    (hu : P.underlying ty = some d) (hd : (match d with | .struct _ | .array _ _ => true | _ => false) = true) (hi : (P.info? ty).map (·.size) = some cs.size)
    (hK : K (a.put o.dst (.agg cs))) : Oper.quiet P o a C K := by
  refine ⟨.agg cs, fun w hw => ?_, hK⟩
  unfold Oper.quietAt execOp
  simp only [ho, hx, Instr.loadAt, Instr.sureAddr, Sem.run_bind, Sem.run_pure, Result.andThen_ok, run_loadVar_row w g t ty cs fr d (hC w hw) hu hd hi]
  exact ⟨rfl, rfl⟩

end Go.Proofs.YtfckjilhkdlpfaaGreatDoor

namespace Go.Proofs.YtfckjilhkdlpfaaGreatDoor
open Go.RowKit MS
def dvs (l : List Nat) : List Value := l.map (fun n => .int .i64 ((n : Nat) : Int))
theorem dvs_app (l : List Nat) (n : Nat) : dvs (l ++ [n]) = dvs l ++ [.int .i64 ((n : Nat) : Int)] := by simp [dvs]
/-- A slice of n digits of u. -/
def DS (w : World) (base : Nat) (v : Value) (n u : Nat) : Prop := w.ownsRow base 3 1 v n (dvs (dgn 65536 n u)) ∧ u < 65536 ^ n ∧ 0 < n ∧ n ≤ 100
theorem DS.on {w w' : World} {base n u : Nat} {v : Value} (h : DS w base v n u) (hb : Below w.heap.size w w') : DS w' base v n u := ⟨ownsRow_on h.1 hb, h.2⟩
theorem DS.form {w : World} {base n u : Nat} {v : Value} (h : DS w base v n u) : ∃ g cap, v = .slice (some ⟨g, 0, none⟩) n cap ∧ base ≤ g ∧ g < w.heap.size := h.1.form h.2.2.1
theorem DS.base {w : World} {base base' n u : Nat} {v : Value} (h : DS w base v n u) (hb : base' ≤ base) : DS w base' v n u := by
  refine ⟨⟨h.1.1, ?_⟩, h.2⟩
  rcases h.1.2 with h1 | ⟨g, cap, cur, h1, h2, h3⟩
  · exact .inl h1
  · exact .inr ⟨g, cap, cur, h1, Nat.le_trans hb h2, h3⟩
theorem DS.cell {w : World} {base g cap n u : Nat} (h : DS w base (.slice (some ⟨g, 0, none⟩) n cap) n u) (i : Nat) (hi : i < n) : w.cell? ⟨g, i, none⟩ = some (.int .i64 ((u / 65536 ^ i % 65536 : Nat) : Int)) := by
  rw [h.1.cellAt i (by omega), dvs, List.getElem?_map, dg_get _ _ _ _ hi]
  rfl
theorem DS.cells {w : World} {base g cap n u : Nat} (h : DS w base (.slice (some ⟨g, 0, none⟩) n cap) n u) : ∀ w', Below w.heap.size w w' → ∀ i, i < n → w'.cell? ⟨g, i, none⟩ = some (.int .i64 ((u / 65536 ^ i % 65536 : Nat) : Int)) :=
  fun _ hb i hi => (h.on hb).cell i hi

theorem cry_top (u v k : Nat) (hu : u < 65536 ^ k) (hv : v < 65536 ^ k) : cry 65536 u v (k + 1) = 0 := by
  unfold cry
  rw [Nat.pow_succ]
  generalize 65536 ^ k = X at *
  rw [Nat.mod_eq_of_lt (by omega), Nat.mod_eq_of_lt (by omega), Nat.div_eq_of_lt (by omega)]
/-- What add has gathered. -/
structure RAd (w0 : World) (u v : Nat) (x : Value) (j : Nat) (w : World) : Prop where
  own : w.ownsRow w0.heap.size 3 1 x j (dvs (dgn 65536 j (u + v)))
  bel : Below w0.heap.size w0 w

set_option maxRecDepth 1000000 in
set_option maxHeartbeats 2000000 in
theorem radd_any (n m u v : Nat) (va vb : Value) (ba bb : Nat) (w : World) (ha : DS w ba va n u) (hb : DS w bb vb m v) :
    Calls Tryz.prog 131 #[va, vb] w fun e w' => Below w.heap.size w w' ∧ ∃ r k, e = .returned r ∧ n ≤ k ∧ m ≤ k ∧ k ≤ max n m + 1 ∧ u + v < 65536 ^ k ∧ w'.ownsRow w.heap.size 3 1 r k (dvs (dgn 65536 k (u + v))) := by
  obtain ⟨i0, hi, hz0, hz1, hz2⟩ : ∃ i, Tryz.prog.info? 3 = some i ∧ i.zero = some (.int .i64 0) ∧ i.size = 1 ∧ i.bytes = 8 := ⟨_, rfl, rfl, rfl, rfl⟩
  obtain ⟨ga, ca, rfl, -, -⟩ := ha.form
  obtain ⟨gb, cb, rfl, -, -⟩ := hb.form
  have HA := Lib.hid ha.cells
  have HB := Lib.hid hb.cells
  have HN := Lib.hid ha.2
  have HM := Lib.hid hb.2
  have hown0 : w.ownsRow w.heap.size 3 1 (.slice none 0 0) 0 (dvs (dgn 65536 0 (u + v))) := World.ownsRow_nil _ _ _ _
  clear ha hb
  go_enter Tryz.func131, Tryz.ntmps131
  go_wp2_with fail
  go_loopw [5, 6, 7] (fun x c i wr => ∃ j : Nat, j ≤ max n m + 1 ∧ i = .int .i64 j ∧ c = .int .i64 ((cry 65536 u v j : Nat) : Int) ∧ RAd w u v x j wr) (fun _ _ i _ => 300 - (intOf i).toNat)
  case atStart => exact ⟨0, by omega, rfl, by rw [cry_zero]; rfl, hown0, Below.refl _ _⟩
  case round =>
    obtain ⟨j, hj, rfl, rfl, hr⟩ := hrel
    have HOWN := Lib.hid hr.own
    have HBL := Lib.hid hr.bel
    have HJ := Lib.hid hj
    clear hr hown0 hj
    -- ROUND
    have HCZ := Lib.hid (show j = max n m + 1 → cry 65536 u v j = 0 from fun e => by
      rw [e]
      exact cry_top _ _ _ (Nat.lt_of_lt_of_le HN.out.1 (Nat.pow_le_pow_right (by decide) (Nat.le_max_left n m))) (Nat.lt_of_lt_of_le HM.out.1 (Nat.pow_le_pow_right (by decide) (Nat.le_max_right n m))))
    have hc1 := cry_le 65536 u v j (by decide)
    have hD := add_digit 65536 u v j (by decide)
    have hC := add_carry 65536 u v j (by decide)
    have hx := dig_lt 65536 (by decide) u j
    have hy := dig_lt 65536 (by decide) v j
    have hx0 := Lib.hid (show n ≤ j → u / 65536 ^ j % 65536 = 0 from fun h => dig_zero HN.out.1 (by decide) h)
    have hy0 := Lib.hid (show m ≤ j → v / 65536 ^ j % 65536 = 0 from fun h => dig_zero HM.out.1 (by decide) h)
    have hend := Lib.hid (show n ≤ j → m ≤ j → cry 65536 u v j = 0 → u + v < 65536 ^ j from fun h1 h2 h3 => add_ends HN.out.1 HM.out.1 (by decide) h1 h2 h3)
    have hS := dg_succ 65536 j (u + v)
    rw [hD] at hS
    have CA := Lib.hid (fun h => HA.out wr HBL.out j h)
    have CB := Lib.hid (fun h => HB.out wr HBL.out j h)
    generalize u / 65536 ^ j % 65536 = x at *
    generalize v / 65536 ^ j % 65536 = y at *
    generalize cry 65536 u v j = c at *
    have HNEXT := Lib.hid (show ∀ (x1 : Value) (w1 : World), w1.ownsRow w.heap.size 3 1 x1 (j + 1) (dvs (dgn 65536 j (u + v)) ++ [.int .i64 (((c + x + y : Nat) : Int) % 65536)]) → w1.ownsRow w.heap.size 3 1 x1 (j + 1) (dvs (dgn 65536 (j + 1) (u + v))) from by
      intro x1 w1 h
      rw [hS, dvs_app, Int.natCast_emod]
      exact h)
    have HC := Lib.hid hC
    clear hD hC hS
    have jn : (0 : Int) ≤ j := Int.natCast_nonneg j
    have jb : (j : Int) ≤ 200 := by have := HJ.out; have := HN.out.2.2; have := HM.out.2.2; omega
    have HML := Lib.hid (show j + 1 ≤ maxLen by have := HJ.out; have := HN.out.2.2; have := HM.out.2.2; unfold maxLen; omega)
    have HMB := Lib.hid (show (j + 1) * 8 ≤ 140737488355328 by have := HJ.out; have := HN.out.2.2; have := HM.out.2.2; omega)
    by_cases h1 : j < n
    · have j1 : (j : Int) < n := by omega
      have HLT := Lib.hid h1
      by_cases h2 : j < m
      · have j2 : (j : Int) < m := by omega
        have HGO := Lib.hid (show j < max n m + 1 by have := HLT.out; omega)
        have ca := CA.out (by omega)
        have cb := CB.out (by omega)
        obtain ⟨S, hSS⟩ : ∃ S : Nat, S = c + x + y := ⟨_, rfl⟩
        rw [← hSS] at HNEXT HC
        have qs : (c : Int) + (x : Int) + (y : Int) = (S : Int) := by omega
        have s1 : (S : Int) < 200000 := by omega
        have s0 : (0 : Int) ≤ (S : Int) := by omega
        have c0 : (0 : Int) ≤ (c : Int) := by omega
        have c1 : (c : Int) ≤ 1 := by omega
        have b1 : (x : Int) < 65536 := by omega
        have b0 : (0 : Int) ≤ (x : Int) := by omega
        have d1 : (y : Int) < 65536 := by omega
        have d0 : (0 : Int) ≤ (y : Int) := by omega
        clear hSS hx hy hc1
        have HAL := Lib.hid (HOWN.out.alloc (.cells #[.int .i64 ((S : Int) % 65536)] 3 (0, 0)))
        have hs0 : _ ≤ wr.heap.size := HBL.out.size
        go_wp2_with (at_builtin; refine wpList_append_own _ rfl (.tmp 46) (.tmp 49) 105 rfl _ 3 i0 (.int .i64 0) 1 8 Tryz.underlying105 hi hz0 hz1 hz2 rfl (by decide) _ _ _ rfl HAL.out ⟨wr.heap.size, 0, none⟩ 1 1 [.int .i64 ((S : Int) % 65536)] rfl rfl (one_cell wr _ _) (one_one _ rfl) HML.out HMB.out (le_alloc hs0 _) ?_)
        intro v1 w1 h1 h2 h3
        have HB1 := Lib.hid (below_app HBL.out _ _ _ _ _ HOWN.out h2)
        have HO1 := Lib.hid (HNEXT.out _ _ h1)
        clear h1 h2 h3 hs0
        go_wp2_with fail
        go_roundw
        case rel => exact ⟨j + 1, by have := HGO.out; omega, by go_num, by rw [HC.out]; go_num, HO1.out, HB1.out⟩
        case measure => simp [intOf]; have := HGO.out; have := HN.out.2.2; have := HM.out.2.2; omega
      · have j2 : ¬ (j : Int) < m := by omega
        have HGO := Lib.hid (show j < max n m + 1 by have := HLT.out; omega)
        have y0 : y = 0 := hy0.out (by omega)
        subst y0
        have ca := CA.out (by omega)
        obtain ⟨S, hSS⟩ : ∃ S : Nat, S = c + x + 0 := ⟨_, rfl⟩
        rw [← hSS] at HNEXT HC
        have qs : (c : Int) + (x : Int) = (S : Int) := by omega
        have s1 : (S : Int) < 200000 := by omega
        have s0 : (0 : Int) ≤ (S : Int) := by omega
        have c0 : (0 : Int) ≤ (c : Int) := by omega
        have c1 : (c : Int) ≤ 1 := by omega
        have b1 : (x : Int) < 65536 := by omega
        have b0 : (0 : Int) ≤ (x : Int) := by omega
        clear hSS hx hy hc1
        have HAL := Lib.hid (HOWN.out.alloc (.cells #[.int .i64 ((S : Int) % 65536)] 3 (0, 0)))
        have hs0 : _ ≤ wr.heap.size := HBL.out.size
        go_wp2_with (at_builtin; refine wpList_append_own _ rfl (.tmp 46) (.tmp 49) 105 rfl _ 3 i0 (.int .i64 0) 1 8 Tryz.underlying105 hi hz0 hz1 hz2 rfl (by decide) _ _ _ rfl HAL.out ⟨wr.heap.size, 0, none⟩ 1 1 [.int .i64 ((S : Int) % 65536)] rfl rfl (one_cell wr _ _) (one_one _ rfl) HML.out HMB.out (le_alloc hs0 _) ?_)
        intro v1 w1 h1 h2 h3
        have HB1 := Lib.hid (below_app HBL.out _ _ _ _ _ HOWN.out h2)
        have HO1 := Lib.hid (HNEXT.out _ _ h1)
        clear h1 h2 h3 hs0
        go_wp2_with fail
        go_roundw
        case rel => exact ⟨j + 1, by have := HGO.out; omega, by go_num, by rw [HC.out]; go_num, HO1.out, HB1.out⟩
        case measure => simp [intOf]; have := HGO.out; have := HN.out.2.2; have := HM.out.2.2; omega
    · have j1 : ¬ (j : Int) < n := by omega
      by_cases h2 : j < m
      · have j2 : (j : Int) < m := by omega
        have HLT := Lib.hid h2
        have HGO := Lib.hid (show j < max n m + 1 by have := HLT.out; omega)
        have x0 : x = 0 := hx0.out (by omega)
        subst x0
        have cb := CB.out (by omega)
        obtain ⟨S, hSS⟩ : ∃ S : Nat, S = c + 0 + y := ⟨_, rfl⟩
        rw [← hSS] at HNEXT HC
        have qs : (c : Int) + (y : Int) = (S : Int) := by omega
        have s1 : (S : Int) < 200000 := by omega
        have s0 : (0 : Int) ≤ (S : Int) := by omega
        have c0 : (0 : Int) ≤ (c : Int) := by omega
        have c1 : (c : Int) ≤ 1 := by omega
        have d1 : (y : Int) < 65536 := by omega
        have d0 : (0 : Int) ≤ (y : Int) := by omega
        clear hSS hx hy hc1
        have HAL := Lib.hid (HOWN.out.alloc (.cells #[.int .i64 ((S : Int) % 65536)] 3 (0, 0)))
        have hs0 : _ ≤ wr.heap.size := HBL.out.size
        go_wp2_with (at_builtin; refine wpList_append_own _ rfl (.tmp 46) (.tmp 49) 105 rfl _ 3 i0 (.int .i64 0) 1 8 Tryz.underlying105 hi hz0 hz1 hz2 rfl (by decide) _ _ _ rfl HAL.out ⟨wr.heap.size, 0, none⟩ 1 1 [.int .i64 ((S : Int) % 65536)] rfl rfl (one_cell wr _ _) (one_one _ rfl) HML.out HMB.out (le_alloc hs0 _) ?_)
        intro v1 w1 h1 h2 h3
        have HB1 := Lib.hid (below_app HBL.out _ _ _ _ _ HOWN.out h2)
        have HO1 := Lib.hid (HNEXT.out _ _ h1)
        clear h1 h2 h3 hs0
        go_wp2_with fail
        go_roundw
        case rel => exact ⟨j + 1, by have := HGO.out; omega, by go_num, by rw [HC.out]; go_num, HO1.out, HB1.out⟩
        case measure => simp [intOf]; have := HGO.out; have := HN.out.2.2; have := HM.out.2.2; omega
      · have j2 : ¬ (j : Int) < m := by omega
        by_cases h3 : c = 0
        · subst h3
          have he := Lib.hid (hend.out (by omega) (by omega) rfl)
          clear CA CB HNEXT HC
          go_wp2_with fail
          go_ret
          exact ⟨HBL.out, _, rfl, j, by omega, by omega, HJ.out, he.out, HOWN.out⟩
        · obtain rfl : c = 1 := by omega
          have HGO := Lib.hid (show j < max n m + 1 from by
            refine Nat.lt_of_le_of_ne HJ.out fun e => h3 (HCZ.out e))
          have x0 : x = 0 := hx0.out (by omega)
          subst x0
          have y0 : y = 0 := hy0.out (by omega)
          subst y0
          clear h3 hx hy hc1 hend HCZ CA CB hx0 hy0 HA HB
          rw [show ((1 : Nat) : Int) = 1 from rfl]
          have HAL := Lib.hid (HOWN.out.alloc (.cells #[.int .i64 1] 3 (0, 0)))
          have hs0 : _ ≤ wr.heap.size := HBL.out.size
          go_wp2_with (at_builtin; refine wpList_append_own _ rfl (.tmp 46) (.tmp 49) 105 rfl _ 3 i0 (.int .i64 0) 1 8 Tryz.underlying105 hi hz0 hz1 hz2 rfl (by decide) _ _ _ rfl HAL.out ⟨wr.heap.size, 0, none⟩ 1 1 [.int .i64 1] rfl rfl (one_cell wr _ _) (one_one _ rfl) HML.out HMB.out (le_alloc hs0 _) ?_)
          intro v1 w1 h1 h2 h3
          have HB1 := Lib.hid (below_app HBL.out _ _ _ _ _ HOWN.out h2)
          have HO1 := Lib.hid (HNEXT.out _ _ h1)
          clear h1 h2 h3 hs0
          go_wp2_with fail
          go_roundw
          case rel => exact ⟨j + 1, by have := HGO.out; omega, by go_num, by rw [HC.out]; rfl, HO1.out, HB1.out⟩
          case measure => simp [intOf]; have := HGO.out; have := HN.out.2.2; have := HM.out.2.2; omega
end Go.Proofs.YtfckjilhkdlpfaaGreatDoor

namespace Go.Proofs.YtfckjilhkdlpfaaGreatDoor
open Go.RowKit MS
/-- A row of digits of the call's own. -/
structure TSt (g N : Nat) (w0 : World) (l : List Nat) (w : World) : Prop where
  own : w.ownsRow w0.heap.size 3 1 (.slice (some ⟨g, 0, none⟩) N N) N (dvs l)
  bel : Below w0.heap.size w0 w
theorem TSt.drewN {g N : Nat} {w0 w : World} {l : List Nat} (h : TSt g N w0 l w) (k : Nat) : TSt g N w0 l (w.drewN k) := ⟨h.own, below_drewN h.bel k⟩
theorem TSt.cell {g N : Nat} {w0 w : World} {l : List Nat} (h : TSt g N w0 l w) (j x : Nat) (hj : j < N) (hx : l[j]? = some x) : w.cell? ⟨g, j, none⟩ = some (.int .i64 (x : Int)) := by
  rw [h.own.cellAt j (by omega), dvs, List.getElem?_map, hx]
  rfl
theorem TSt.free {g N : Nat} {w0 w : World} {l : List Nat} (h : TSt g N w0 l w) (j : Nat) : w.frozen? ⟨g, j, none⟩ = false := h.own.frozenAt j
theorem TSt.put {g N : Nat} {w0 w : World} {l : List Nat} (h : TSt g N w0 l w) (j x : Nat) (v : Value) (hv : v = .int .i64 (x : Int)) : TSt g N w0 (l.set j x) (w.setCell ⟨g, j, none⟩ v) := by
  subst hv
  refine ⟨?_, h.bel.setCell ((own_cap h.own).2.2.1) _⟩
  have := (h.own.stored j (.int .i64 (x : Int))).1
  rwa [show (dvs l).set j (.int .i64 (x : Int)) = dvs (l.set j x) by simp [dvs, List.map_set]] at this

theorem made_zeros (N : Nat) : (madeCells #[.int .i64 0] N).toList = dvs (dgn 65536 N 0) := by
  apply List.ext_getElem?
  intro j
  rw [dg_zero, dvs, List.getElem?_map, List.getElem?_replicate]
  by_cases h : j < N
  · simp [madeCells, h, Nat.mod_one]
  · simp [madeCells, h]
theorem natmod (S : Nat) : Value.int .i64 ((S : Int) % 65536) = .int .i64 ((S % 65536 : Nat) : Int) := rfl

set_option maxRecDepth 1000000 in
set_option maxHeartbeats 2000000 in
theorem rtimes_any (n m u v : Nat) (va vb : Value) (ba bb : Nat) (w : World) (ha : DS w ba va n u) (hb : DS w bb vb m v) :
    Calls Tryz.prog 110 #[va, vb] w fun e w' => Below w.heap.size w w' ∧ ∃ r, e = .returned r ∧ w'.ownsRow w.heap.size 3 1 r (n + m) (dvs (dgn 65536 (n + m) (u * v))) := by
  obtain ⟨i0, hi, hz0, hz1, hz2⟩ : ∃ i, Tryz.prog.info? 3 = some i ∧ i.zero = some (.int .i64 0) ∧ i.size = 1 ∧ i.bytes = 8 := ⟨_, rfl, rfl, rfl, rfl⟩
  obtain ⟨ga, ca, rfl, -, -⟩ := ha.form
  obtain ⟨gb, cb, rfl, -, -⟩ := hb.form
  have HA := Lib.hid ha.cells
  have HB := Lib.hid hb.cells
  have HN := Lib.hid ha.2
  have HM := Lib.hid hb.2
  have hn1 : (n : Int) ≤ 100 := by have := HN.out.2.2; omega
  have hm1 : (m : Int) ≤ 100 := by have := HM.out.2.2; omega
  have hn0 : (0 : Int) ≤ n := by omega
  have hm0 : (0 : Int) ≤ m := by omega
  have hy2 : i0.bytes * (n + m) ≤ 281474976710656 := by rw [hz2]; omega
  have hy3 : n + m ≤ maxLen := by unfold maxLen; omega
  clear ha hb
  go_enter Tryz.func110, Tryz.ntmps110
  go_wp2_with (at_make; refine wpList_make_full w rfl (.tmp 14) (.tmp 14) 105 rfl w.heap.size 3 i0 (.int .i64 0) 1 Tryz.underlying105 hi hz0 hz1 .i64 .i64 ((n : Int) + (m : Int)) ((n : Int) + (m : Int)) (n + m) rfl rfl (Int.natCast_add n m).symm (Int.natCast_add n m).symm hy2 hy3 (Nat.le_refl _) ?_)
  intro w1 h1 h2
  rw [made_zeros] at h1
  have T0 := Lib.hid (show TSt w.heap.size (n + m) w (dgn 65536 (n + m) (u % 65536 ^ 0 * v)) w1 from ⟨by rw [Nat.pow_zero, Nat.mod_one, Nat.zero_mul]; exact h1, (Below.refl w.heap.size w).grown h2 (Nat.le_refl _) (fun k hk => by cases hk)⟩)
  have HNM := Lib.hid (show ∃ N, N = n + m from ⟨_, rfl⟩)
  obtain ⟨N, hNM⟩ := HNM.out
  rw [← hNM] at T0
  rw [← hNM]
  have HG := Lib.hid hNM
  generalize hg : w.heap.size = g at T0 ⊢
  have HGG := Lib.hid hg
  clear h1 h2 hy2 hy3 HNM hNM hg
  have nN : (N : Int) ≤ 200 := by have := HG.out; omega
  go_wp2_with fail
  go_loopw [6] (fun i wr => ∃ j : Nat, j ≤ n ∧ i = .int .i64 j ∧ TSt g N w (dgn 65536 N (u % 65536 ^ j * v)) wr) (fun i _ => 300 - (intOf i).toNat)
  case atStart => exact ⟨0, by omega, rfl, T0.out⟩
  case round =>
    obtain ⟨j, hj, rfl, hr⟩ := hrel
    have R1 := Lib.hid hr
    have HJ := Lib.hid hj
    clear hr hj T0
    by_cases hlt : j < n
    · have j1 : (j : Int) < n := by omega
      have j0 : (0 : Int) ≤ j := by omega
      have HLT := Lib.hid hlt
      have hx := dig_lt 65536 (by decide) u j
      have HX := Lib.hid (fun wr h => HA.out wr h j hlt)
      have hS0 := trow_zero 65536 N u v j (by have := HG.out; omega)
      have HC0 := Lib.hid (tsum_c0 65536 u v j (by decide))
      have R2 := R1.out
      rw [← hS0] at R2
      have R3 := Lib.hid R2
      clear R1 R2 hS0 hlt
      go_wp2_with fail
      obtain ⟨wo, rfl⟩ : ∃ wo : World, wo = wr := ⟨_, rfl⟩
      go_loopw [7, 8] (fun c i wr => ∃ k : Nat, k ≤ m ∧ i = .int .i64 k ∧ c = .int .i64 ((tsum 65536 u v j k / 65536 ^ (j + k) : Nat) : Int) ∧ TSt g N w (trow 65536 N u v j k) wr) (fun _ i _ => 300 - (intOf i).toNat)
      case atStart => exact ⟨0, by omega, rfl, by rw [HC0.out]; rfl, R3.out⟩
      case round =>
        obtain ⟨k, hk, rfl, rfl, hr⟩ := hrel
        have R4 := Lib.hid hr
        have HK := Lib.hid hk
        have hc := tsum_c_lt 65536 u v j k (by decide)
        have hL := trow_get 65536 N u v j k (j + k) (Nat.le_refl _) (by have := HG.out; have := HLT.out; have := HM.out.2.1; omega)
        clear hr hk R3
        by_cases hlt : k < m
        · have k1 : (k : Int) < m := by omega
          have k0 : (0 : Int) ≤ k := by omega
          have HLK := Lib.hid hlt
          have hpN : j + k < N := by have := HG.out; have := HLT.out; omega
          have hy := dig_lt 65536 (by decide) v k
          have cx := HX.out wr R4.out.bel
          have cy := HB.out wr R4.out.bel k hlt
          have hd := tsum_digit 65536 u v j k (by decide)
          have hcc := tsum_carry 65536 u v j k (by decide)
          have hl := dig_lt 65536 (by decide) (u % 65536 ^ j * v) (j + k)
          have hset := trow_set 65536 N u v j k hpN
          rw [hd] at hset
          have cl := R4.out.cell (j + k) _ hpN hL
          have fl := R4.out.free (j + k)
          have HST := Lib.hid (show ∀ kk : Nat, ∀ x : Value, x = .int .i64 (((tsum 65536 u v j k / 65536 ^ (j + k) + (u % 65536 ^ j * v / 65536 ^ (j + k) % 65536 + u / 65536 ^ j % 65536 * (v / 65536 ^ k % 65536))) % 65536 : Nat) : Int) → TSt g N w (trow 65536 N u v j (k + 1)) ((wr.drewN kk).setCell ⟨g, j + k, none⟩ x) from fun kk x hx => by
            rw [← hset]
            exact (R4.out.drewN kk).put (j + k) _ x hx)
          have HCC := Lib.hid hcc
          clear hcc hset hd hL HX R4
          generalize u / 65536 ^ j % 65536 = x at *
          generalize v / 65536 ^ k % 65536 = y at *
          generalize tsum 65536 u v j k / 65536 ^ (j + k) = c at *
          generalize u % 65536 ^ j * v / 65536 ^ (j + k) % 65536 = l at *
          have hP : x * y ≤ 65535 * 65535 := Nat.mul_le_mul (by omega) (by omega)
          obtain ⟨P, hPP⟩ : ∃ P : Nat, P = x * y := ⟨_, rfl⟩
          rw [← hPP] at hP HST HCC
          have qP : (x : Int) * (y : Int) = (P : Int) := by rw [hPP]; exact (Int.natCast_mul x y).symm
          obtain ⟨S, hSS⟩ : ∃ S : Nat, S = c + (l + P) := ⟨_, rfl⟩
          rw [← hSS] at HST HCC
          have qS : (l : Int) + (P : Int) + (c : Int) = (S : Int) := by omega
          have qS2 : (l : Int) + (P : Int) ≤ 4294967296 := by omega
          have S1 : (S : Int) ≤ 4295098368 := by omega
          have S0 : (0 : Int) ≤ (S : Int) := by omega
          have P1 : (P : Int) ≤ 4294836225 := by omega
          have P0 : (0 : Int) ≤ (P : Int) := by omega
          have l1 : (l : Int) < 65536 := by omega
          have l0 : (0 : Int) ≤ (l : Int) := by omega
          obtain ⟨p, hp⟩ : ∃ p : Nat, p = j + k := ⟨_, rfl⟩
          rw [← hp] at cl fl HST
          have qp : (j : Int) + (k : Int) = (p : Int) := by omega
          have p1 : (p : Int) < N := by omega
          have p0 : (0 : Int) ≤ (p : Int) := by omega
          have kb : (k : Int) ≤ 100 := by omega
          clear hSS hPP hP hp hpN hx hy hc hl hlt
          go_wp2_with fail
          go_quiet (fail)
          have HS2 := Lib.hid (HST.out nq _ (natmod S))
          have f2 : (wr.drewN nq).frozen? ⟨g, p, none⟩ = false := fl
          have c2 : (wr.drewN nq).cell? ⟨g, p, none⟩ = some (.int .i64 (l : Int)) := cl
          clear fl cl cx cy HST
          generalize wr.drewN nq = wq at *
          go_wp2_with fail
          go_roundw
          case rel => exact ⟨k + 1, by have := HLK.out; omega, by go_num, by rw [HCC.out]; go_num, HS2.out⟩
          case measure => simp [intOf]; have := HLK.out; have := HM.out.2.2; omega
        · have k1 : ¬ (k : Int) < m := by omega
          have hkm : k = m := by have := HK.out; omega
          subst hkm
          have hlast := trow_last 65536 N u v j k (by decide) HM.out.1 (by have := HG.out; have := HLT.out; omega)
          have hpN : j + k < N := by have := HG.out; have := HLT.out; omega
          have hl := dig_lt 65536 (by decide) (u % 65536 ^ j * v) (j + k)
          have cl := R4.out.cell (j + k) _ hpN hL
          have fl := R4.out.free (j + k)
          have HST := Lib.hid (show ∀ x : Value, x = .int .i64 (((u % 65536 ^ j * v / 65536 ^ (j + k) % 65536 + tsum 65536 u v j k / 65536 ^ (j + k) : Nat)) : Int) → TSt g N w (dgn 65536 N (u % 65536 ^ (j + 1) * v)) (wr.setCell ⟨g, j + k, none⟩ x) from fun x hx => by
            rw [← hlast]
            exact R4.out.put (j + k) _ x hx)
          clear hlast hL R4
          generalize tsum 65536 u v j k / 65536 ^ (j + k) = c at *
          generalize u % 65536 ^ j * v / 65536 ^ (j + k) % 65536 = l at *
          have c1 : (c : Int) < 65536 := by omega
          have c0 : (0 : Int) ≤ (c : Int) := by omega
          have l1 : (l : Int) < 65536 := by omega
          have l0 : (0 : Int) ≤ (l : Int) := by omega
          obtain ⟨p, hp⟩ : ∃ p : Nat, p = j + k := ⟨_, rfl⟩
          rw [← hp] at cl fl HST
          have qp : (j : Int) + (k : Int) = (p : Int) := by omega
          have p1 : (p : Int) < N := by omega
          have p0 : (0 : Int) ≤ (p : Int) := by omega
          have kb : (k : Int) ≤ 100 := by omega
          have HS2 := Lib.hid (HST.out (.int .i64 ((l : Int) + (c : Int))) (by rw [Int.natCast_add]))
          clear hp hpN hc hl hlt HST hx HX
          go_wp2_with fail
          go_roundw
          case rel => exact ⟨j + 1, by have := HLT.out; omega, by go_num, HS2.out⟩
          case measure => simp [intOf]; have := HLT.out; have := HN.out.2.2; omega
    · have j1 : ¬ (j : Int) < n := by omega
      have hjn : j = n := by have := HJ.out; omega
      subst hjn
      have R9 := R1.out
      rw [Nat.mod_eq_of_lt HN.out.1] at R9
      have HB9 := Lib.hid R9.bel
      have HO9 := Lib.hid R9.own
      clear R9 R1 hlt
      go_wp2_with fail
      go_ret
      exact ⟨HB9.out, _, rfl, by rw [← HG.out]; exact HO9.out⟩
end Go.Proofs.YtfckjilhkdlpfaaGreatDoor

namespace Go.Proofs.YtfckjilhkdlpfaaGreatDoor
open Go.RowKit MS
theorem prime_digits : dgn 65536 16 Q' = 65517 :: List.replicate 14 65535 ++ [32767] := by decide +kernel
set_option maxRecDepth 1000000 in
set_option maxHeartbeats 1000000 in
theorem rprime_any (w : World) : Calls Tryz.prog 132 #[] w fun e w' => Below w.heap.size w w' ∧ ∃ r, e = .returned r ∧ w'.ownsRow w.heap.size 3 1 r 16 (dvs (dgn 65536 16 Q')) := by
  obtain ⟨i0, hi, hz0, hz1, hz2⟩ : ∃ i, Tryz.prog.info? 3 = some i ∧ i.zero = some (.int .i64 0) ∧ i.size = 1 ∧ i.bytes = 8 := ⟨_, rfl, rfl, rfl, rfl⟩
  have h0 := World.ownsRow_lit (base := w.heap.size) (e := 3) (size := 1) w #[.int .i64 65517] 1 (Nat.le_refl _) (by decide) rfl
  have O0 := Lib.hid (show (w.alloc (.cells #[.int .i64 65517] 3 (0, 0))).ownsRow w.heap.size 3 1 (.slice (some ⟨w.heap.size, 0, none⟩) 1 1) (0 + 1) (dvs (65517 :: List.replicate 0 65535)) from h0)
  clear h0
  go_enter Tryz.func132, Tryz.ntmps132
  go_wp2_with fail
  go_loopw [1, 2] (fun v i wr => ∃ j : Nat, j ≤ 14 ∧ i = .int .i64 j ∧ wr.ownsRow w.heap.size 3 1 v (j + 1) (dvs (65517 :: List.replicate j 65535)) ∧ Below w.heap.size w wr) (fun _ i _ => 14 - (intOf i).toNat)
  case atStart => exact ⟨0, by omega, rfl, O0.out, (Below.refl _ _).alloc (Nat.le_refl _) _⟩
  case round =>
    obtain ⟨j, hj, rfl, ho, hb⟩ := hrel
    have HO := Lib.hid ho
    have HB := Lib.hid hb
    have HJ := Lib.hid hj
    clear ho hb hj O0
    have hs0 : _ ≤ wr.heap.size := HB.out.size
    by_cases hlt : j < 14
    · have j1 : (j : Int) < 14 := by omega
      have j0 : (0 : Int) ≤ j := by omega
      have HLT := Lib.hid hlt
      have HML := Lib.hid (show j + 1 + 1 ≤ maxLen by unfold maxLen; omega)
      have HMB := Lib.hid (show (j + 1 + 1) * 8 ≤ 140737488355328 by omega)
      have HAL := Lib.hid (HO.out.alloc (.cells #[.int .i64 65535] 3 (0, 0)))
      clear hlt
      go_wp2_with (at_builtin; refine wpList_append_own _ rfl (.tmp 8) (.tmp 9) 105 rfl _ 3 i0 (.int .i64 0) 1 8 Tryz.underlying105 hi hz0 hz1 hz2 rfl (by decide) _ _ _ rfl HAL.out ⟨wr.heap.size, 0, none⟩ 1 1 [.int .i64 65535] rfl rfl (one_cell wr _ _) (one_one _ rfl) HML.out HMB.out (le_alloc hs0 _) ?_)
      intro v1 w1 h1 h2 h3
      have HB1 := Lib.hid (below_app HB.out _ _ _ _ _ HO.out h2)
      rw [show dvs (65517 :: List.replicate j 65535) ++ [.int .i64 65535] = dvs (65517 :: List.replicate (j + 1) 65535) by rw [List.replicate_succ']; simp [dvs]] at h1
      have HO1 := Lib.hid h1
      clear h1 h2 h3 hs0
      go_wp2_with fail
      go_roundw
      case rel => exact ⟨j + 1, HLT.out, by go_num, HO1.out, HB1.out⟩
      case measure => simp [intOf]; omega
    · have j1 : ¬ (j : Int) < 14 := by omega
      have hj14 : j = 14 := by have := HJ.out; omega
      subst hj14
      have HAL := Lib.hid (HO.out.alloc (.cells #[.int .i64 32767] 3 (0, 0)))
      clear hlt
      go_wp2_with (at_builtin; refine wpList_append_own _ rfl (.tmp 11) (.tmp 12) 105 rfl _ 3 i0 (.int .i64 0) 1 8 Tryz.underlying105 hi hz0 hz1 hz2 rfl (by decide) _ _ _ rfl HAL.out ⟨wr.heap.size, 0, none⟩ 1 1 [.int .i64 32767] rfl rfl (one_cell wr _ _) (one_one _ rfl) (by decide) (by decide) (le_alloc hs0 _) ?_)
      intro v1 w1 h1 h2 h3
      have HB1 := Lib.hid (below_app HB.out _ _ _ _ _ HO.out h2)
      have HO1 := Lib.hid (show w1.ownsRow w.heap.size 3 1 v1 16 (dvs (dgn 65536 16 Q')) by rw [prime_digits]; exact h1)
      clear h1 h2 h3 hs0
      go_wp2_with fail
      go_ret
      exact ⟨HB1.out, _, rfl, HO1.out⟩

set_option maxRecDepth 1000000 in
set_option maxHeartbeats 1000000 in
theorem rbelow_any (u v : Nat) (va vb : Value) (ba bb : Nat) (w : World) (ha : DS w ba va 16 u) (hb : DS w bb vb 16 v) :
    Calls Tryz.prog 133 #[va, vb] w fun e w' => e = .returned (.bool (decide (u < v))) ∧ Below w.heap.size w w' := by
  obtain ⟨ga, ca, rfl, -, -⟩ := ha.form
  obtain ⟨gb, cb, rfl, -, -⟩ := hb.form
  have HA := Lib.hid ha.cells
  have HB := Lib.hid hb.cells
  have HT := Lib.hid (show u / 65536 ^ 16 = v / 65536 ^ 16 by rw [Nat.div_eq_of_lt ha.2.1, Nat.div_eq_of_lt hb.2.1])
  clear ha hb
  generalize hbd : decide (u < v) = bd
  have HD := Lib.hid hbd
  clear hbd
  go_enter Tryz.func133, Tryz.ntmps133
  go_wp2_with fail
  go_loopw [5] (fun i wr => ∃ t : Nat, t ≤ 16 ∧ i = .int .i64 ((t : Int) - 1) ∧ u / 65536 ^ t = v / 65536 ^ t ∧ Below w.heap.size w wr) (fun i _ => (intOf i + 1).toNat)
  case atStart => exact ⟨16, by omega, rfl, HT.out, Below.refl _ _⟩
  case round =>
    obtain ⟨t, ht, rfl, he, hbl⟩ := hrel
    have HBL := Lib.hid hbl
    have HE := Lib.hid he
    clear hbl he HT
    cases t with
    | zero =>
      have hz : ((0 : Nat) : Int) - 1 = -1 := rfl
      rw [hz]
      have hd : false = bd := by
        have := HE.out
        rw [Nat.pow_zero, Nat.div_one, Nat.div_one] at this
        rw [← HD.out]
        exact (decide_eq_false (by omega)).symm
      have HF := Lib.hid hd
      clear hz hd
      go_wp2_with fail
      go_ret
      exact ⟨by rw [← HF.out]; rfl, HBL.out⟩
    | succ i =>
      rw [show ((i + 1 : Nat) : Int) - 1 = (i : Int) by omega]
      have i1 : (i : Int) < 16 := by omega
      have i0 : (0 : Int) ≤ i := by omega
      have cx := HA.out wr HBL.out i (by omega)
      have cy := HB.out wr HBL.out i (by omega)
      have H1 := Lib.hid (show u / 65536 ^ i % 65536 < v / 65536 ^ i % 65536 → u < v from lt_of_digit (by decide) HE.out)
      have H2 := Lib.hid (show v / 65536 ^ i % 65536 < u / 65536 ^ i % 65536 → v < u from lt_of_digit (by decide) HE.out.symm)
      have H3 := Lib.hid (show u / 65536 ^ i % 65536 = v / 65536 ^ i % 65536 → u / 65536 ^ i = v / 65536 ^ i from div_of_digit HE.out)
      clear HE
      generalize u / 65536 ^ i % 65536 = x at *
      generalize v / 65536 ^ i % 65536 = y at *
      by_cases hxy : x = y
      · subst hxy
        have HR := Lib.hid (H3.out rfl)
        clear H1 H2 H3
        go_wp2_with fail
        go_quiet (fail)
        have HQ := Lib.hid (below_drewN HBL.out nq)
        clear cx cy
        generalize wr.drewN nq = wq at *
        go_wp2_with fail
        go_roundw
        case rel => exact ⟨i, by omega, by go_num, HR.out, HQ.out⟩
        case measure => simp [intOf]
      · have hne : ¬ (x : Int) = (y : Int) := by omega
        have hd : decide (x < y) = bd := by
          rw [← HD.out]
          by_cases hl : x < y
          · rw [decide_eq_true hl, decide_eq_true (H1.out hl)]
          · have := H2.out (by omega)
            rw [decide_eq_false hl, decide_eq_false (by omega)]
        have HF := Lib.hid hd
        clear hd hxy H1 H2 H3
        go_wp2_with fail
        go_quiet (fail)
        have d1 : (wr.drewN nq).cell? ⟨ga, i, none⟩ = some (.int .i64 (x : Int)) := cx
        have d2 : (wr.drewN nq).cell? ⟨gb, i, none⟩ = some (.int .i64 (y : Int)) := cy
        have HQ := Lib.hid (below_drewN HBL.out nq)
        clear cx cy
        generalize wr.drewN nq = wq at *
        go_wp2_with fail
        go_quiet (fail)
        have HQ2 := Lib.hid (below_drewN HQ.out nq)
        generalize wq.drewN nq = wz at *
        go_wp2_with fail
        go_ret
        exact ⟨by rw [← HF.out]; rfl, HQ2.out⟩
end Go.Proofs.YtfckjilhkdlpfaaGreatDoor

namespace Go.Proofs.YtfckjilhkdlpfaaGreatDoor
open Go.RowKit MS
set_option maxRecDepth 1000000 in
set_option maxHeartbeats 2000000 in
theorem rminus_any (u v : Nat) (va vb : Value) (ba bb : Nat) (w : World) (ha : DS w ba va 16 u) (hb : DS w bb vb 16 v) (hvu : v ≤ u) :
    Calls Tryz.prog 134 #[va, vb] w fun e w' => Below w.heap.size w w' ∧ ∃ r, e = .returned r ∧ w'.ownsRow w.heap.size 3 1 r 16 (dvs (dgn 65536 16 (u - v))) := by
  obtain ⟨i0, hi, hz0, hz1, hz2⟩ : ∃ i, Tryz.prog.info? 3 = some i ∧ i.zero = some (.int .i64 0) ∧ i.size = 1 ∧ i.bytes = 8 := ⟨_, rfl, rfl, rfl, rfl⟩
  obtain ⟨ga, ca, rfl, -, -⟩ := ha.form
  obtain ⟨gb, cb, rfl, -, -⟩ := hb.form
  have HA := Lib.hid ha.cells
  have HB := Lib.hid hb.cells
  have HVU := Lib.hid hvu
  have hown0 : w.ownsRow w.heap.size 3 1 (.slice none 0 0) 0 (dvs (dgn 65536 0 (u - v))) := World.ownsRow_nil _ _ _ _
  clear ha hb hvu
  go_enter Tryz.func134, Tryz.ntmps134
  go_wp2_with fail
  go_loopw [5, 6, 7] (fun x c i wr => ∃ j : Nat, j ≤ 16 ∧ i = .int .i64 j ∧ c = .int .i64 ((lent 65536 u v j : Nat) : Int) ∧ wr.ownsRow w.heap.size 3 1 x j (dvs (dgn 65536 j (u - v))) ∧ Below w.heap.size w wr) (fun _ _ i _ => 16 - (intOf i).toNat)
  case atStart => exact ⟨0, by omega, rfl, by rw [lent_zero]; rfl, hown0, Below.refl _ _⟩
  case round =>
    obtain ⟨j, hj, rfl, rfl, ho, hbl⟩ := hrel
    have HOWN := Lib.hid ho
    have HBL := Lib.hid hbl
    have HJ := Lib.hid hj
    clear ho hbl hown0 hj
    by_cases hlt : j < 16
    · have j1 : (j : Int) < 16 := by omega
      have j0 : (0 : Int) ≤ j := by omega
      have HLT := Lib.hid hlt
      have hx := dig_lt 65536 (by decide) u j
      have hy := dig_lt 65536 (by decide) v j
      have hd := dig_lt 65536 (by decide) (u - v) j
      have hS := sub_digit 65536 u v j (by decide) HVU.out
      have hL := lent_step 65536 u v j (by decide)
      have hD := dg_succ 65536 j (u - v)
      have hl1 : lent 65536 u v j ≤ 1 := by unfold lent; split <;> omega
      have cx := HA.out wr HBL.out j hlt
      have cy := HB.out wr HBL.out j hlt
      generalize u / 65536 ^ j % 65536 = x at *
      generalize v / 65536 ^ j % 65536 = y at *
      generalize (u - v) / 65536 ^ j % 65536 = d at *
      generalize lent 65536 u v j = l at *
      have HNEXT := Lib.hid (show ∀ (x1 : Value) (w1 : World), w1.ownsRow w.heap.size 3 1 x1 (j + 1) (dvs (dgn 65536 j (u - v)) ++ [.int .i64 (d : Int)]) → w1.ownsRow w.heap.size 3 1 x1 (j + 1) (dvs (dgn 65536 (j + 1) (u - v))) from by
        intro x1 w1 h
        rw [hD, dvs_app]
        exact h)
      have HL := Lib.hid hL
      have HML := Lib.hid (show j + 1 ≤ maxLen by unfold maxLen; omega)
      have HMB := Lib.hid (show (j + 1) * 8 ≤ 140737488355328 by omega)
      have x1 : (x : Int) < 65536 := by omega
      have x0 : (0 : Int) ≤ (x : Int) := by omega
      have y1 : (y : Int) < 65536 := by omega
      have y0 : (0 : Int) ≤ (y : Int) := by omega
      have l1 : (l : Int) ≤ 1 := by omega
      have l0 : (0 : Int) ≤ (l : Int) := by omega
      have d1 : (d : Int) < 65536 := by omega
      have d0 : (0 : Int) ≤ (d : Int) := by omega
      obtain ⟨t0, e0⟩ : ∃ t0 : Int, (x : Int) - (y : Int) = t0 := ⟨_, rfl⟩
      have t1 : t0 ≤ 65536 := by omega
      have t2 : -65536 ≤ t0 := by omega
      by_cases hn : x < y + l
      case' pos =>
        have e1 : lent 65536 u v (j + 1) = 1 := by rw [hL, if_pos hn]
        obtain ⟨t, e2⟩ : ∃ t : Int, t0 - (l : Int) = t := ⟨_, rfl⟩
        have en : t < 0 := by omega
        have en1 : -65537 ≤ t := by omega
        have es : t + 65536 = (d : Int) := by rw [e1] at hS; omega
        have HE := Lib.hid (show ((lent 65536 u v (j + 1) : Nat) : Int) = 1 by rw [e1]; rfl)
        have hb := Lib.hid (decide_eq_true en)
      case' neg =>
        have e1 : lent 65536 u v (j + 1) = 0 := by rw [hL, if_neg hn]
        have es : t0 - (l : Int) = (d : Int) := by rw [e1] at hS; omega
        have en : ¬ (d : Int) < 0 := by omega
        have HE := Lib.hid (show ((lent 65536 u v (j + 1) : Nat) : Int) = 0 by rw [e1]; rfl)
        have hb := Lib.hid (decide_eq_false en)
      all_goals
        clear e1 hn hx hy hd hS hL hD hl1 hlt HL
        go_upto_region 6 with fail
        go_quiet (fail)
        have HO2 := Lib.hid (show (wr.drewN nq).ownsRow _ _ _ _ _ _ from HOWN.out)
        have HQ := Lib.hid (below_drewN HBL.out nq)
        clear cx cy
        generalize wr.drewN nq = wq at *
        have hs0 : _ ≤ wq.heap.size := HQ.out.size
        have HAL := Lib.hid (HO2.out.alloc (.cells #[.int .i64 (d : Int)] 3 (0, 0)))
        clear e0 x1 x0 y1 y0 l1 l0 t1 t2 en
        go_upto_region 8 with fail
        have hb2 := hb.out
        go_upto_region 11 with fail
        go_wp2_with (at_builtin; refine wpList_append_own _ rfl (.tmp 28) (.tmp 30) 105 rfl _ 3 i0 (.int .i64 0) 1 8 Tryz.underlying105 hi hz0 hz1 hz2 rfl (by decide) _ _ _ rfl HAL.out ⟨wq.heap.size, 0, none⟩ 1 1 [.int .i64 (d : Int)] rfl rfl (one_cell wq _ _) (one_one _ rfl) HML.out HMB.out (le_alloc hs0 _) ?_)
        intro v1 w1 h1 h2 h3
        have HB1 := Lib.hid (below_app HQ.out _ _ _ _ _ HO2.out h2)
        have HO1 := Lib.hid (HNEXT.out _ _ h1)
        clear h1 h2 h3 hs0
        go_wp2_with fail
        go_roundw
        case rel => exact ⟨j + 1, HLT.out, by go_num, by rw [HE.out], HO1.out, HB1.out⟩
        case measure => simp [intOf]; omega
    · have j1 : ¬ (j : Int) < 16 := by omega
      have hj16 : j = 16 := by have := HJ.out; omega
      subst hj16
      clear hlt
      go_wp2_with fail
      go_ret
      exact ⟨HBL.out, _, rfl, HOWN.out⟩
end Go.Proofs.YtfckjilhkdlpfaaGreatDoor

namespace Go.Proofs.YtfckjilhkdlpfaaGreatDoor
open Go.RowKit MS
/-- The number that a slice of digits holds. -/
def sumD (f : Nat → Nat) : Nat → Nat
  | 0 => 0
  | n + 1 => sumD f n + 65536 ^ n * f n
theorem sumD_congr {f h : Nat → Nat} (n : Nat) (hf : ∀ i, i < n → f i = h i) : sumD f n = sumD h n := by
  induction n with
  | zero => rfl
  | succ n ih => rw [sumD, sumD, ih (fun i hi => hf i (by omega)), hf n (by omega)]
theorem sumD_dig (u n : Nat) : sumD (fun i => u / 65536 ^ i % 65536) n = u % 65536 ^ n := by
  induction n with
  | zero => simp [sumD, Nat.mod_one]
  | succ n ih => rw [sumD, ih, mod_succ]
def cellN (w : World) (a : Addr) : Nat := match w.cell? a with
  | some (.int _ x) => x.toNat
  | _ => 0
def numOf (w : World) : Value → Nat
  | .slice (some a) n _ => sumD (fun i => cellN w ⟨a.block, i, none⟩) n
  | _ => 0
def lenOf : Value → Nat
  | .slice _ n _ => n
  | _ => 0
theorem DS.num {w : World} {base n u : Nat} {v : Value} (h : DS w base v n u) : numOf w v = u := by
  obtain ⟨g, cap, rfl, -, -⟩ := h.form
  rw [numOf, sumD_congr (h := fun i => u / 65536 ^ i % 65536) n (fun i hi => by show cellN w ⟨g, i, none⟩ = _; rw [cellN, h.cell i hi]; exact Int.toNat_natCast _), sumD_dig, Nat.mod_eq_of_lt h.2.1]
theorem DS.len {w : World} {base n u : Nat} {v : Value} (h : DS w base v n u) : lenOf v = n := by
  obtain ⟨g, cap, rfl, -, -⟩ := h.form
  rfl
def redM (v : Value) (w : World) : Nat := 2 * numOf w v + if lenOf v > 16 then 1 else 0
/-- Cut at its end. -/
theorem own_take {w : World} {base g n cap m : Nat} {e : TypeId} {xs : List Value} (h : w.ownsRow base e 1 (.slice (some ⟨g, 0, none⟩) n cap) n xs) (hm : m ≤ n) : w.ownsRow base e 1 (.slice (some ⟨g, 0, none⟩) m cap) m (xs.take m) := by
  rcases h.2 with ⟨h', _⟩ | ⟨g', cap', cur, h', hb, hg, hnc, hcm, hcs, htake⟩
  · simp at h'
  · simp only [Value.slice.injEq, Option.some.injEq, Addr.mk.injEq, and_true, true_and] at h'
    obtain ⟨rfl, rfl⟩ := h'
    have hl := h.1
    refine ⟨by rw [List.length_take]; omega, .inr ⟨g, cap, cur, rfl, hb, hg, by omega, hcm, hcs, ?_⟩⟩
    rw [← htake, List.take_take]
    congr 1
    omega
theorem dgn_take (B n m u : Nat) (h : m ≤ n) : (dgn B n u).take m = dgn B m u := by
  apply List.ext_getElem?
  intro i
  rw [List.getElem?_take]
  by_cases hi : i < m
  · rw [if_pos hi, dg_get _ _ _ _ hi, dg_get _ _ _ _ (by omega)]
  · rw [if_neg hi, List.getElem?_eq_none (by rw [length_dgn]; omega)]
theorem dvs_take (l : List Nat) (m : Nat) : (dvs l).take m = dvs (l.take m) := by simp [dvs, List.map_take]
/-- The row low behind j rounds. -/
def lowL (u j : Nat) : List Nat := (List.range 16).map fun p => if p < j then lo255 u / 65536 ^ p % 65536 else 0
theorem length_lowL (u j : Nat) : (lowL u j).length = 16 := by simp [lowL]
theorem lowL_get (u j p : Nat) (h : p < 16) : (lowL u j)[p]? = some (if p < j then lo255 u / 65536 ^ p % 65536 else 0) := by simp [lowL, h]
theorem lowL_zero (u : Nat) : lowL u 0 = dgn 65536 16 0 := by
  rw [dg_zero]
  apply List.ext_getElem?
  intro p
  by_cases h : p < 16
  · rw [lowL_get _ _ _ h, List.getElem?_replicate, if_pos h, if_neg (Nat.not_lt_zero p)]
  · rw [List.getElem?_eq_none (by rw [length_lowL]; omega), List.getElem?_eq_none (by simp; omega)]
theorem lowL_set (u j x : Nat) (h : j < 16) (hx : x = lo255 u / 65536 ^ j % 65536) : (lowL u j).set j x = lowL u (j + 1) := by
  subst hx
  apply List.ext_getElem?
  intro p
  rw [List.getElem?_set, length_lowL]
  by_cases hp : p < 16
  · rw [lowL_get _ _ _ hp, lowL_get _ _ _ hp]
    by_cases e : j = p
    · subst e
      rw [if_pos rfl, if_pos hp, if_pos (by omega)]
    · rw [if_neg e]
      by_cases h2 : p < j
      · rw [if_pos h2, if_pos (by omega)]
      · rw [if_neg h2, if_neg (by omega)]
  · rw [if_neg (by omega), List.getElem?_eq_none (by rw [length_lowL]; omega), List.getElem?_eq_none (by rw [length_lowL]; omega)]
theorem lowL_more (u j : Nat) (h : 16 ≤ j) : lowL u (j + 1) = lowL u j := by
  unfold lowL
  apply List.map_congr_left
  intro p hp
  have := List.mem_range.1 hp
  rw [if_pos (by omega), if_pos (by omega)]
theorem lowL_end (u j : Nat) (h : 16 ≤ j) : lowL u j = dgn 65536 16 (lo255 u) := by
  unfold lowL dgn
  apply List.map_congr_left
  intro p hp
  have := List.mem_range.1 hp
  rw [if_pos (by omega)]
theorem high_get (u n j : Nat) (hn : u < 65536 ^ n) (h15 : 15 ≤ j) : u / 65536 ^ j % 65536 / 32768 + (if j + 1 < n then u / 65536 ^ (j + 1) % 65536 % 32768 * 2 else 0) = hi255 u / 65536 ^ (j - 15) % 65536 := by
  rw [hi_dig, show 15 + (j - 15) = j by omega]
  split
  · rfl
  · rw [dig_zero hn (by decide) (show n ≤ j + 1 by omega)]
theorem high_app (u j : Nat) (h15 : 15 ≤ j) : dgn 65536 (j + 1 - 15) (hi255 u) = dgn 65536 (j - 15) (hi255 u) ++ [hi255 u / 65536 ^ (j - 15) % 65536] := by
  rw [show j + 1 - 15 = j - 15 + 1 by omega, dg_succ]
/-- What the inner loop keeps: the row low at g, the row high, all that lay before. -/
structure RSt (w0 : World) (g u j k : Nat) (x : Value) (w : World) : Prop where
  low : TSt g 16 w0 (lowL u j) w
  high : w.ownsRow (g + 1) 3 1 x k (dvs (dgn 65536 k (hi255 u)))
theorem RSt.drewN {w0 : World} {g u j k : Nat} {x : Value} {w : World} (h : RSt w0 g u j k x w) (m : Nat) : RSt w0 g u j k x (w.drewN m) := ⟨h.low.drewN m, h.high⟩
theorem RSt.put {w0 : World} {g u j k : Nat} {x : Value} {w : World} (h : RSt w0 g u j k x w) (hj : j < 16) (d : Nat) (hd : d = lo255 u / 65536 ^ j % 65536) (v : Value) (hv : v = .int .i64 (d : Int)) : RSt w0 g u (j + 1) k x (w.setCell ⟨g, j, none⟩ v) := by
  refine ⟨?_, ?_⟩
  · rw [← lowL_set u j d hj hd]
    exact h.low.put j d v hv
  · refine h.high.kept (h.low.own.stored j v).2 ?_
    by_cases hb : x.ownBlock = some g
    · have := (h.high.lt g hb).1
      omega
    · exact .inr hb
theorem RSt.skip {w0 : World} {g u j k : Nat} {x : Value} {w : World} (h : RSt w0 g u j k x w) (hj : 16 ≤ j) : RSt w0 g u (j + 1) k x w := ⟨by rw [lowL_more u j hj]; exact h.low, h.high⟩
/-- Something appended to high, whose block is not low's. -/
theorem RSt.app {w0 : World} {g u j k k' : Nat} {x x' : Value} {w w' : World} (h : RSt w0 g u j k x w) (o : Obj) (hg : (w.alloc o).grownBy w' x.ownBlock) (ho : w'.ownsRow (g + 1) 3 1 x' k' (dvs (dgn 65536 k' (hi255 u)))) : RSt w0 g u j k' x' w' := by
  have hge := (own_cap h.low.own).2.2.1
  refine ⟨⟨(h.low.own.alloc o).kept hg ?_, ?_⟩, ho⟩
  · right
    intro e
    have := (h.high.lt g e.symm).1
    omega
  · exact (below_alloc h.low.bel o).grown hg (by rw [World.size_alloc]; exact Nat.le_succ_of_le h.low.bel.size) (fun m hm => by have := (h.high.lt m hm).1; omega)
end Go.Proofs.YtfckjilhkdlpfaaGreatDoor

namespace Go.Proofs.YtfckjilhkdlpfaaGreatDoor
open Go.RowKit MS
theorem DS.redM {w : World} {base n u : Nat} {v : Value} (h : DS w base v n u) : redM v w = 2 * u + if n > 16 then 1 else 0 := by rw [Go.Proofs.YtfckjilhkdlpfaaGreatDoor.redM, h.num, h.len]
theorem DS.cut {w : World} {base g n cap u : Nat} (h : DS w base (.slice (some ⟨g, 0, none⟩) (n + 1) cap) (n + 1) u) (hn : 0 < n) (h0 : u / 65536 ^ n % 65536 = 0) : DS w base (.slice (some ⟨g, 0, none⟩) n cap) n u := by
  refine ⟨?_, lt_of_top h.2.1 h0, hn, by have := h.2.2.2; omega⟩
  have := own_take h.1 (m := n) (by omega)
  rwa [dvs_take, dgn_take _ _ _ _ (by omega)] at this
theorem low_start {w w1 : World} (u : Nat) (h1 : w1.ownsRow w.heap.size 3 1 (.slice (some ⟨w.heap.size, 0, none⟩) 16 16) 16 (madeCells #[.int .i64 0] 16).toList) (h2 : w.grownBy w1 none) : RSt w w.heap.size u 0 0 (.slice none 0 0) w1 := by
  refine ⟨⟨?_, (Below.refl w.heap.size w).grown h2 (Nat.le_refl _) (fun k hk => by cases hk)⟩, World.ownsRow_nil _ _ _ _⟩
  rw [lowL_zero, ← made_zeros]
  exact h1

set_option maxRecDepth 1000000 in
set_option maxHeartbeats 4000000 in
theorem rreduce_any (n u : Nat) (va : Value) (ba : Nat) (w : World) (ha : DS w ba va n u) (h16 : 16 ≤ n) :
    Calls Tryz.prog 107 #[va] w fun e w' => Below w.heap.size w w' ∧ ∃ r, e = .returned r ∧ DS w' 0 r 16 (u % Q') := by
  obtain ⟨i0, hi, hz0, hz1, hz2⟩ : ∃ i, Tryz.prog.info? 3 = some i ∧ i.zero = some (.int .i64 0) ∧ i.size = 1 ∧ i.bytes = 8 := ⟨_, rfl, rfl, rfl, rfl⟩
  have H0 := Lib.hid (show 16 ≤ n ∧ DS w 0 va n u ∧ u % Q' = u % Q' ∧ Below w.heap.size w w from ⟨h16, ha.base (Nat.zero_le _), rfl, Below.refl _ _⟩)
  clear ha h16
  go_enter Tryz.func107, Tryz.ntmps107
  go_wp2_with fail
  go_loopw [0] (fun v wr => ∃ n' u' : Nat, 16 ≤ n' ∧ DS wr 0 v n' u' ∧ u' % Q' = u % Q' ∧ Below w.heap.size w wr) (fun v wr => redM v wr)
  case atStart => exact ⟨n, u, H0.out.1, H0.out.2.1, rfl, Below.refl _ _⟩
  case round =>
    obtain ⟨n', u', h16, hd, hm, hb⟩ := hrel
    have HREDM := Lib.hid (show redM _ wr = 2 * u' + if n' > 16 then 1 else 0 by rw [redM, hd.num, hd.len])
    obtain ⟨ga, ca, rfl, -, hgw⟩ := hd.form
    have HD := Lib.hid hd
    have HA := Lib.hid hd.cells
    have HMO := Lib.hid hm
    have HB := Lib.hid hb
    have H16 := Lib.hid h16
    have HN100 := Lib.hid hd.2.2.2
    have HU := Lib.hid hd.2.1
    have c15 := hd.cell 15 (by omega)
    have ht := dig_lt 65536 (by decide) u' 15
    have HTOP := Lib.hid (show n' = 16 → ((32767 < u' / 65536 ^ 15 % 65536) ↔ hi255 u' ≠ 0) from fun e => hi_top (by rw [← e]; exact hd.2.1))
    generalize u' / 65536 ^ 15 % 65536 = t at *
    have n0 : (16 : Int) ≤ (n' : Int) := by omega
    have n1 : (n' : Int) ≤ 100 := by have := HN100.out; omega
    have hgaw := hgw
    clear hd hm hb hgw H0
    by_cases hgo : n' > 16 ∨ 32767 < t
    · have HGO := Lib.hid (show hi255 u' = 0 → n' > 16 from fun h => by
        rcases hgo with h1 | h1
        · exact h1
        · refine Nat.lt_of_le_of_ne H16.out fun e => ?_
          exact ((HTOP.out e.symm).1 h1) h)
      by_cases hn : n' > 16
      case' pos =>
        have q1 : (n' : Int) > 16 := by omega
        have q2 : True := trivial
        have q3 : True := trivial
      case' neg =>
        have q1 : ¬ (n' : Int) > 16 := by omega
        have q2 : ((n' : Int) == 16) = true := by simp; omega
        have q3 : (t : Int) > 32767 := by omega
      all_goals
        clear hgo hn HTOP
        go_wp2_with (at_make; refine wpList_make_full wr rfl (.const (.int .i64 16)) (.const (.int .i64 16)) 105 rfl wr.heap.size 3 i0 (.int .i64 0) 1 Tryz.underlying105 hi hz0 hz1 .i64 .i64 16 16 16 rfl rfl rfl rfl (by rw [hz2]; decide) (by decide) (Nat.le_refl _) ?_)
        intro w1 h1 h2
        have R0 := Lib.hid (low_start u' h1 h2)
        have HGA := Lib.hid hgaw
        clear h1 h2
        generalize hgl : wr.heap.size = gl at R0 ⊢
        have HGL := Lib.hid hgl
        clear hgl
        go_wp2_with fail
        obtain ⟨wo, rfl⟩ : ∃ wo : World, wo = wr := ⟨_, rfl⟩
        go_loopw [4, 5] (fun x i wr => ∃ j : Nat, j ≤ n' ∧ i = .int .i64 j ∧ RSt wo gl u' j (j - 15) x wr) (fun _ i _ => 300 - (intOf i).toNat)
        case atStart => exact ⟨0, by omega, rfl, R0.out⟩
        case round =>
          obtain ⟨j, hj, rfl, hr⟩ := hrel
          have R1 := Lib.hid hr
          have HJ := Lib.hid hj
          clear hr hj R0
          by_cases hlt : j < n'
          · have j1 : (j : Int) < n' := by omega
            have j0 : (0 : Int) ≤ j := by omega
            have HLT := Lib.hid hlt
            have ca0 := HA.out wr R1.out.low.bel j hlt
            have hx := dig_lt 65536 (by decide) u' j
            by_cases h15 : j < 15
            · have k1 : (j : Int) < 15 := by omega
              have k2 : ((j : Int) == 15) = false := by simp; omega
              have k3 : ¬ (j : Int) ≥ 15 := by omega
              have hput := R1.out.put (by omega) _ (lo_dig u' j h15).symm _ rfl
              rw [show j - 15 = j + 1 - 15 by omega] at hput
              have fl := R1.out.low.free j
              have cl := R1.out.low.cell j 0 (by omega) ((lowL_get u' j j (by omega)).trans (by rw [if_neg (Nat.lt_irrefl j)]))
              have HPUT := Lib.hid hput
              clear hput R1 hlt h15
              generalize u' / 65536 ^ j % 65536 = x at *
              go_wp2_with fail
              go_roundw
              case rel => exact ⟨j + 1, HLT.out, by go_num, HPUT.out⟩
              case measure => simp [intOf]; have := HLT.out; have := HN100.out; omega
            · have k1 : ¬ (j : Int) < 15 := by omega
              have k3 : (j : Int) ≥ 15 := by omega
              have H15 := Lib.hid (show 15 ≤ j by omega)
              have HG := Lib.hid (high_get u' n' j HU.out (by omega))
              have HAPP := Lib.hid (high_app u' j (by omega))
              have HYL := Lib.hid (dig_lt 65536 (by decide) u' (j + 1))
              by_cases h16 : j = 15
              case' pos =>
                have k2 : ((j : Int) == 15) = true := by simp; omega
                have j16 : (j : Int) < 16 := by omega
                have hput := R1.out.put (by omega) (u' / 65536 ^ j % 65536 % 32768) (by rw [h16]; exact (lo_dig15 u').symm) (.int .i64 (((u' / 65536 ^ j % 65536 : Nat) : Int) % 32768)) rfl
                have fl := R1.out.low.free j
                have cl := R1.out.low.cell j 0 (by omega) ((lowL_get u' j j (by omega)).trans (by rw [if_neg (Nat.lt_irrefl j)]))
                have HR := Lib.hid hput
                clear hput R1 hlt h15 h16
                generalize hxe : u' / 65536 ^ j % 65536 = x at *
                have HXE := Lib.hid hxe
                clear hxe
                go_upto_region 11 with fail
                generalize wr.setCell ⟨gl, j, none⟩ (.int .i64 ((x : Int) % 32768)) = wq at HR ⊢
                clear fl cl ca0 j16
              case' neg =>
                have k2 : ((j : Int) == 15) = false := by simp; omega
                have HR := Lib.hid (R1.out.skip (by omega))
                clear R1 hlt h15 h16
                generalize hxe : u' / 65536 ^ j % 65536 = x at *
                have HXE := Lib.hid hxe
                clear hxe
                clear ca0
                go_upto_region 11 with fail
                obtain ⟨wq, rfl⟩ : ∃ wq : World, wq = wr := ⟨_, rfl⟩
              all_goals
                have HHG := Lib.hid (show gl + 1 ≤ wq.heap.size from (own_cap HR.out.low.own).2.2.2)
                have HCA := Lib.hid (HA.out wq HR.out.low.bel)
                have HMJ := Lib.hid (show j - 15 + 1 ≤ maxLen by have := HLT.out; have := HN100.out; unfold maxLen; omega)
                have HBJ := Lib.hid (show (j - 15 + 1) * 8 ≤ 140737488355328 by have := HLT.out; have := HN100.out; omega)
                have ca0 := HCA.out j HLT.out
                rw [HXE.out] at ca0
                have hg := HG.out
                have hyl := HYL.out
                by_cases hj2 : j + 1 < n'
                case' pos =>
                  have m1 : (j : Int) + 1 < n' := by omega
                  have m0 : (0 : Int) ≤ (j : Int) + 1 := by omega
                  have ca1 := HCA.out (j + 1) hj2
                  rw [if_pos hj2] at hg
                  generalize u' / 65536 ^ (j + 1) % 65536 = y at *
                  have y1 : (y : Int) < 65536 := by omega
                  have y0 : (0 : Int) ≤ (y : Int) := by omega
                  obtain ⟨S, hS⟩ : ∃ S : Nat, S = x / 32768 + y % 32768 * 2 := ⟨_, rfl⟩
                  have qS : (x : Int) / 32768 + (y : Int) % 32768 * 2 = (S : Int) := by omega
                case' neg =>
                  have m1 : ¬ (j : Int) + 1 < n' := by omega
                  have m0 : (0 : Int) ≤ (j : Int) + 1 := by omega
                  have ca1 : True := trivial
                  rw [if_neg hj2] at hg
                  have y1 : True := trivial
                  have y0 : True := trivial
                  obtain ⟨S, hS⟩ : ∃ S : Nat, S = x / 32768 + 0 := ⟨_, rfl⟩
                  have qS : (x : Int) / 32768 = (S : Int) := by omega
                all_goals
                  rw [← hS] at hg
                  have S1 : (S : Int) < 65536 := by omega
                  have S0 : (0 : Int) ≤ (S : Int) := by omega
                  have qm : (S : Int) % 65536 = (S : Int) := by omega
                  have x1 : (x : Int) < 65536 := by omega
                  have x0 : (0 : Int) ≤ (x : Int) := by omega
                  have HAP2 := HAPP.out
                  rw [← hg] at HAP2
                  have HNEXT := Lib.hid (show ∀ (x1 : Value) (w1 : World), w1.ownsRow (gl + 1) 3 1 x1 (j - 15 + 1) (dvs (dgn 65536 (j - 15) (hi255 u')) ++ [.int .i64 (S : Int)]) → w1.ownsRow (gl + 1) 3 1 x1 (j + 1 - 15) (dvs (dgn 65536 (j + 1 - 15) (hi255 u'))) from by
                    intro x1 w1 h
                    rw [HAP2, dvs_app, show j + 1 - 15 = j - 15 + 1 by have := H15.out; omega]
                    exact h)
                  have HAL := Lib.hid (HR.out.high.alloc (.cells #[.int .i64 (S : Int)] 3 (0, 0)))
                  clear hS hg HAP2 HAPP HG HYL hyl hx HCA hj2 k2
                  go_upto_region 15 with fail
                  clear ca0 ca1 x1 x0 y1 y0 qS m1 m0 k1 k3
                  go_wp2_with (at_builtin; refine wpList_append_own _ rfl (.tmp 69) (.tmp 72) 105 rfl _ 3 i0 (.int .i64 0) 1 8 Tryz.underlying105 hi hz0 hz1 hz2 rfl (by decide) _ _ _ rfl HAL.out ⟨wq.heap.size, 0, none⟩ 1 1 [.int .i64 (S : Int)] rfl rfl (one_cell wq _ _) (one_one _ rfl) HMJ.out HBJ.out (le_alloc HHG.out _) ?_)
                  intro v1 w9 h1 h2 h3
                  have HR9 := Lib.hid (HR.out.app _ h2 (HNEXT.out _ _ h1))
                  clear h1 h2 h3
                  go_wp2_with fail
                  go_roundw
                  case rel => exact ⟨j + 1, by have := HLT.out; omega, by go_num, HR9.out⟩
                  case measure => simp [intOf]; have := HLT.out; have := HN100.out; omega
          · have j1 : ¬ (j : Int) < n' := by omega
            have hjn : j = n' := by have := HJ.out; omega
            have R2 := R1.out
            rw [hjn] at R2
            have HLOW := Lib.hid (show TSt gl 16 wo (dgn 65536 16 (lo255 u')) wr from by rw [← lowL_end u' n' H16.out]; exact R2.low)
            have HHI := Lib.hid (hi_lt HU.out (by have := H16.out; omega))
            obtain ⟨gh, ch, rfl, hgh, -⟩ := R2.high.form (by have := H16.out; omega)
            have HOH := Lib.hid R2.high
            obtain ⟨k0, hk0⟩ : ∃ k0, n' - 15 = k0 := ⟨_, rfl⟩
            rw [hk0] at HHI HOH ⊢
            have HK0 := Lib.hid (show k0 ≤ 85 by have := HN100.out; omega)
            have hch := Lib.hid (own_cap HOH.out)
            clear R2 R1 hgh hlt hjn hk0
            go_wp2_with fail
            obtain ⟨w5, rfl⟩ : ∃ w5 : World, w5 = wr := ⟨_, rfl⟩
            go_loopw [4] (fun x wr => ∃ k : Nat, k ≤ 85 ∧ k ≤ ch ∧ hi255 u' < 65536 ^ k ∧ x = .slice (some ⟨gh, 0, none⟩) k ch ∧ wr.ownsRow (gl + 1) 3 1 (.slice (some ⟨gh, 0, none⟩) k ch) k (dvs (dgn 65536 k (hi255 u'))) ∧ TSt gl 16 wo (dgn 65536 16 (lo255 u')) wr) (fun x _ => lenOf x)
            case atStart => exact ⟨k0, HK0.out, hch.out.1, HHI.out, rfl, HOH.out, HLOW.out⟩
            case round =>
              obtain ⟨k, hk, hkc, hlt, rfl, ho, hl⟩ := hrel
              have HO := Lib.hid ho
              have HL := Lib.hid hl
              have HKB := Lib.hid hk
              have HKC := Lib.hid hkc
              have HKH := Lib.hid hlt
              clear ho hl HLOW HOH HHI
              cases k with
              | zero =>
                have hz : hi255 u' = 0 := by have := HKH.out; rw [Nat.pow_zero] at this; omega
                have hzz := Lib.hid hz
                have K16 := Lib.hid (Nat.le_refl 16)
                have D2 := Lib.hid (show DS wr 0 (.slice (some ⟨gl, 0, none⟩) 16 16) 16 (lo255 u') from ⟨(show DS wr wo.heap.size _ 16 _ from ⟨HL.out.own, lo_lt u', by decide, by decide⟩).base (Nat.zero_le _) |>.1, lo_lt u', by decide, by decide⟩)
                have MQ := Lib.hid (show lo255 u' % Q' = u % Q' by rw [fold_same hz]; exact HMO.out)
                have BW := Lib.hid (show Below w.heap.size w wr from HB.out.trans (HL.out.bel.mono HB.out.size))
                have DEC := Lib.hid (show ∀ k3, k3 ≤ 16 → 2 * lo255 u' + (if k3 > 16 then 1 else 0) < 2 * u' + (if n' > 16 then 1 else 0) from fun k3 h3 => by
                  rw [fold_same hz, if_neg (by omega), if_pos (HGO.out hz)]
                  omega)
                clear hz hk hkc hlt
                go_wp2_with fail
                obtain ⟨wp, rfl⟩ : ∃ wp : World, wp = wr := ⟨_, rfl⟩
                go_loopw [0] (fun v wr => ∃ k : Nat, 16 ≤ k ∧ k ≤ 16 ∧ v = .slice (some ⟨gl, 0, none⟩) k 16 ∧ DS wr 0 (.slice (some ⟨gl, 0, none⟩) k 16) k (lo255 u') ∧ Below w.heap.size w wr) (fun v _ => lenOf v)
                case atStart => exact ⟨16, K16.out, Nat.le_refl _, rfl, D2.out, BW.out⟩
                case round =>
                  obtain ⟨k, hk16, hkK, rfl, hd, hbl⟩ := hrel
                  have D3 := Lib.hid hd
                  have B3 := Lib.hid hbl
                  have KK := Lib.hid hkK
                  have KG := Lib.hid hk16
                  have kb : (k : Int) ≤ 100 := by have := hd.2.2.2; omega
                  clear hd hbl hkK D2 BW
                  by_cases hk : k > 16
                  · obtain ⟨k, rfl⟩ : ∃ k', k = k' + 1 := ⟨k - 1, by omega⟩
                    have m1 : ((k + 1 : Nat) : Int) > 16 := by omega
                    have cd := D3.out.cell k (by omega)
                    have HCUT := Lib.hid (D3.out.cut (by omega))
                    have KC := Lib.hid (own_cap D3.out.1)
                    have k0 : (0 : Int) ≤ (k : Int) := by omega
                    have m2 : (k : Int) < ((k + 1 : Nat) : Int) := by omega
                    have m3 : ((k + 1 : Nat) : Int) - 1 = (k : Int) := by omega
                    have m4 : (k : Int) ≤ ((16 : Nat) : Int) := by have := KC.out.1; omega
                    generalize (lo255 u') / 65536 ^ k % 65536 = d at *
                    by_cases hdz : d = 0
                    · have z1 : ((d : Int) == 0) = true := by simp; omega
                      have HC2 := Lib.hid (HCUT.out hdz)
                      have KL := Lib.hid hk
                      clear hdz hk HCUT hk16
                      go_wp2_with fail
                      go_roundw
                      case rel => exact ⟨k, by have := KL.out; omega, by have := KK.out; omega, rfl, HC2.out, B3.out⟩
                      case measure => show k < k + 1; omega
                    · have z1 : ((d : Int) == 0) = false := by simp; omega
                      clear hdz hk HCUT hk16
                      go_wp2_with fail
                      go_roundw
                      case rel => exact ⟨_, _, KG.out, D3.out, MQ.out, B3.out⟩
                      case measure => rw [HREDM.out, D3.out.redM]; exact DEC.out _ KK.out
                  · have m1 : ¬ (k : Int) > 16 := by omega
                    clear hk hk16
                    go_wp2_with fail
                    go_roundw
                    case rel => exact ⟨_, _, KG.out, D3.out, MQ.out, B3.out⟩
                    case measure => rw [HREDM.out, D3.out.redM]; exact DEC.out _ KK.out
              | succ k =>
                have m1 : ((k + 1 : Nat) : Int) > 0 := by omega
                have cd : wr.cell? ⟨gh, k, none⟩ = some (.int .i64 ((hi255 u' / 65536 ^ k % 65536 : Nat) : Int)) := by
                  rw [HO.out.cellAt k (by omega), dvs, List.getElem?_map, dg_get _ _ _ _ (by omega)]
                  rfl
                have HCUT := Lib.hid (show hi255 u' / 65536 ^ k % 65536 = 0 → hi255 u' < 65536 ^ k from lt_of_top HKH.out)
                have HGE := Lib.hid (show hi255 u' / 65536 ^ k % 65536 ≠ 0 → hi255 u' ≠ 0 from fun h e => h (by rw [e, Nat.zero_div, Nat.zero_mod]))
                have HT := own_take HO.out (m := k) (by omega)
                rw [dvs_take, dgn_take _ _ _ _ (by omega)] at HT
                have HOT := Lib.hid HT
                have k0 : (0 : Int) ≤ (k : Int) := by omega
                have kb : (k : Int) ≤ 85 := by omega
                have m2 : (k : Int) < ((k + 1 : Nat) : Int) := by omega
                have m3 : ((k + 1 : Nat) : Int) - 1 = (k : Int) := by omega
                have m4 : (k : Int) ≤ (ch : Int) := by omega
                clear HT
                generalize hi255 u' / 65536 ^ k % 65536 = d at *
                by_cases hdz : d = 0
                · have z1 : ((d : Int) == 0) = true := by simp; omega
                  have HC2 := Lib.hid (HCUT.out hdz)
                  clear hdz HCUT hk hkc hlt
                  go_wp2_with fail
                  go_roundw
                  case rel => exact ⟨k, by have := HKB.out; omega, by have := HKC.out; omega, HC2.out, rfl, HOT.out, HL.out⟩
                  case measure => show k < k + 1; omega
                · have z1 : ((d : Int) == 0) = false := by simp; omega
                  have HNZ := Lib.hid (HGE.out hdz)
                  have DH := Lib.hid (show DS (wr.alloc (.cells #[.int .i64 19] 3 (0, 0))) (gl + 1) (.slice (some ⟨gh, 0, none⟩) (k + 1) ch) (k + 1) (hi255 u') from (show DS wr _ _ _ _ from ⟨HO.out, HKH.out, by omega, by have := HKB.out; omega⟩).on ((Below.refl _ _).alloc (Nat.le_refl _) _))
                  have D19 := Lib.hid (show DS (wr.alloc (.cells #[.int .i64 19] 3 (0, 0))) wr.heap.size (.slice (some ⟨wr.heap.size, 0, none⟩) 1 1) 1 19 from ⟨World.ownsRow_lit (base := wr.heap.size) (e := 3) (size := 1) wr #[.int .i64 19] 1 (Nat.le_refl _) (by decide) rfl, by decide, by decide, by decide⟩)
                  have DL0 := Lib.hid (show DS (wr.alloc (.cells #[.int .i64 19] 3 (0, 0))) wo.heap.size (.slice (some ⟨gl, 0, none⟩) 16 16) 16 (lo255 u') from (show DS wr _ _ _ _ from ⟨HL.out.own, lo_lt u', by decide, by decide⟩).on ((Below.refl _ _).alloc (Nat.le_refl _) _))
                  have BA := Lib.hid (show Below w.heap.size w (wr.alloc (.cells #[.int .i64 19] 3 (0, 0))) from below_alloc (HB.out.trans (HL.out.bel.mono HB.out.size)) _)
                  clear hdz HCUT HGE HOT hk hkc hlt
                  go_wp2_with fail
                  refine (rtimes_any (k + 1) 1 (hi255 u') 19 _ _ _ _ _ DH.out D19.out).mono ?_
                  rintro e w7 ⟨hb7, r7, rfl, ho7⟩
                  have DT := Lib.hid (show DS w7 _ r7 (k + 1 + 1) (hi255 u' * 19) from ⟨ho7, prod_lt_pow HKH.out (by decide) (by decide), by omega, by have := HKB.out; omega⟩)
                  have DL := Lib.hid (DL0.out.on hb7)
                  have B7 := Lib.hid (BA.out.trans (hb7.mono BA.out.size))
                  clear hb7 ho7 D19 DH DL0 BA
                  go_wp2_with fail
                  refine (radd_any 16 (k + 1 + 1) (lo255 u') (hi255 u' * 19) _ _ _ _ _ DL.out DT.out).mono ?_
                  rintro e w8 ⟨hb8, r8, k2, rfl, p1, p2, p3, p4, ho8⟩
                  have BW := Lib.hid (B7.out.trans (hb8.mono B7.out.size))
                  have hd8 : DS w8 0 r8 k2 (lo255 u' + hi255 u' * 19) := (show DS w8 _ r8 k2 _ from ⟨ho8, p4, by omega, by have := HKB.out; omega⟩).base (Nat.zero_le _)
                  obtain ⟨g2, c2, rfl, -, -⟩ := hd8.form
                  have D2 := Lib.hid hd8
                  have K16 := Lib.hid p1
                  have MQ := Lib.hid (show (lo255 u' + hi255 u' * 19) % Q' = u % Q' by rw [Nat.mul_comm, fold_mod]; exact HMO.out)
                  have DEC := Lib.hid (show ∀ k3, k3 ≤ k2 → 2 * (lo255 u' + hi255 u' * 19) + (if k3 > 16 then 1 else 0) < 2 * u' + (if n' > 16 then 1 else 0) from fun k3 h3 => by
                    have := fold_lt HNZ.out
                    split <;> omega)
                  clear hb8 ho8 p1 p2 p3 p4 hd8 DT DL B7 cd m1 m2 m3 m4 k0 kb z1 HKH HKB HKC HO HL
                  go_wp2_with fail
                  obtain ⟨wp, rfl⟩ : ∃ wp : World, wp = w8 := ⟨_, rfl⟩
                  go_loopw [0] (fun v wr => ∃ k : Nat, 16 ≤ k ∧ k ≤ k2 ∧ v = .slice (some ⟨g2, 0, none⟩) k c2 ∧ DS wr 0 (.slice (some ⟨g2, 0, none⟩) k c2) k (lo255 u' + hi255 u' * 19) ∧ Below w.heap.size w wr) (fun v _ => lenOf v)
                  case atStart => exact ⟨k2, K16.out, Nat.le_refl _, rfl, D2.out, BW.out⟩
                  case round =>
                    obtain ⟨k, hk16, hkK, rfl, hd, hbl⟩ := hrel
                    have D3 := Lib.hid hd
                    have B3 := Lib.hid hbl
                    have KK := Lib.hid hkK
                    have KG := Lib.hid hk16
                    have kb : (k : Int) ≤ 100 := by have := hd.2.2.2; omega
                    clear hd hbl hkK D2 BW
                    by_cases hk : k > 16
                    · obtain ⟨k, rfl⟩ : ∃ k', k = k' + 1 := ⟨k - 1, by omega⟩
                      have m1 : ((k + 1 : Nat) : Int) > 16 := by omega
                      have cd := D3.out.cell k (by omega)
                      have HCUT := Lib.hid (D3.out.cut (by omega))
                      have KC := Lib.hid (own_cap D3.out.1)
                      have k0 : (0 : Int) ≤ (k : Int) := by omega
                      have m2 : (k : Int) < ((k + 1 : Nat) : Int) := by omega
                      have m3 : ((k + 1 : Nat) : Int) - 1 = (k : Int) := by omega
                      have m4 : (k : Int) ≤ ((c2 : Nat) : Int) := by have := KC.out.1; omega
                      generalize (lo255 u' + hi255 u' * 19) / 65536 ^ k % 65536 = d at *
                      by_cases hdz : d = 0
                      · have z1 : ((d : Int) == 0) = true := by simp; omega
                        have HC2 := Lib.hid (HCUT.out hdz)
                        have KL := Lib.hid hk
                        clear hdz hk HCUT hk16
                        go_wp2_with fail
                        go_roundw
                        case rel => exact ⟨k, by have := KL.out; omega, by have := KK.out; omega, rfl, HC2.out, B3.out⟩
                        case measure => show k < k + 1; omega
                      · have z1 : ((d : Int) == 0) = false := by simp; omega
                        clear hdz hk HCUT hk16
                        go_wp2_with fail
                        go_roundw
                        case rel => exact ⟨_, _, KG.out, D3.out, MQ.out, B3.out⟩
                        case measure => rw [HREDM.out, D3.out.redM]; exact DEC.out _ KK.out
                    · have m1 : ¬ (k : Int) > 16 := by omega
                      clear hk hk16
                      go_wp2_with fail
                      go_roundw
                      case rel => exact ⟨_, _, KG.out, D3.out, MQ.out, B3.out⟩
                      case measure => rw [HREDM.out, D3.out.redM]; exact DEC.out _ KK.out
    · have hn16 : n' = 16 := by have := H16.out; omega
      have HZ := Lib.hid (show hi255 u' = 0 from Decidable.byContradiction fun h => hgo (.inr ((HTOP.out hn16).2 h)))
      have HT := Lib.hid (red_end HZ.out)
      have q1 : ¬ (n' : Int) > 16 := by omega
      have q2 : ((n' : Int) == 16) = true := by simp; omega
      have q3 : ¬ (t : Int) > 32767 := by omega
      have q4 : ¬ (n' : Int) < 16 := by omega
      have HN := Lib.hid hn16
      clear hgo HTOP hn16
      go_wp2_with fail
      obtain ⟨wp, rfl⟩ : ∃ wp : World, wp = wr := ⟨_, rfl⟩
      go_loopw [0] (fun v wr' => v = .slice (some ⟨ga, 0, none⟩) n' ca ∧ wr' = wp) (fun _ _ => 0)
      case atStart => exact ⟨rfl, rfl⟩
      case round =>
        obtain ⟨rfl, rfl⟩ := hrel
        go_wp2_with fail
        refine (rprime_any _).mono ?_
        rintro e w7 ⟨hb7, r7, rfl, ho7⟩
        have DP := Lib.hid (show DS w7 _ r7 16 Q' from ⟨ho7, by decide, by decide, by decide⟩)
        have DA := Lib.hid (show DS w7 0 (.slice (some ⟨ga, 0, none⟩) 16 ca) 16 u' from by have := HD.out.on hb7; rw [HN.out] at this; exact this.base (Nat.zero_le _))
        have B7 := Lib.hid (HB.out.trans (hb7.mono HB.out.size))
        rw [HN.out]
        clear hb7 ho7
        go_wp2_with fail
        refine (rbelow_any u' Q' _ _ _ _ _ DA.out DP.out).mono ?_
        rintro e w8 ⟨rfl, hb8⟩
        have DP8 := Lib.hid (DP.out.on hb8)
        have DA8 := Lib.hid (DA.out.on hb8)
        have B8 := Lib.hid (B7.out.trans (hb8.mono B7.out.size))
        clear hb8 DP DA B7
        by_cases hlt : u' < Q'
        · rw [decide_eq_true hlt]
          have HT2 := HT.out
          rw [if_pos hlt] at HT2
          have HT3 := Lib.hid HT2
          clear hlt HT HT2
          go_wp2_with fail
          go_ret
          exact ⟨B8.out, _, rfl, by rw [← HMO.out, HT3.out]; exact DA8.out⟩
        · rw [decide_eq_false hlt]
          have HT2 := HT.out
          rw [if_neg hlt] at HT2
          have HT3 := Lib.hid HT2
          have HL := Lib.hid (Nat.le_of_not_lt hlt)
          clear hlt HT HT2
          go_wp2_with fail
          refine (rminus_any u' Q' _ _ _ _ _ DA8.out DP8.out HL.out).mono ?_
          rintro e w9 ⟨hb9, r9, rfl, ho9⟩
          have E9 := Lib.hid (show Below w.heap.size w w9 ∧ DS w9 0 r9 16 (u % Q') from by
            refine ⟨B8.out.trans (hb9.mono B8.out.size), ?_⟩
            rw [← HMO.out, HT3.out]
            exact (show DS w9 _ r9 16 (u' - Q') from ⟨ho9, Nat.lt_of_le_of_lt (Nat.sub_le _ _) (by have := DA8.out.2.1; exact this), by decide, by decide⟩).base (Nat.zero_le _))
          clear hb9 ho9
          go_wp2_with fail
          go_ret
          exact ⟨E9.out.1, _, rfl, E9.out.2⟩
end Go.Proofs.YtfckjilhkdlpfaaGreatDoor

namespace Go.Proofs.YtfckjilhkdlpfaaGreatDoor
open Go.RowKit MS
theorem Q_pow : Q' < 65536 ^ 16 := by decide
set_option maxRecDepth 1000000 in
set_option maxHeartbeats 1000000 in
theorem rfmul_any (u v : Nat) (va vb : Value) (ba bb : Nat) (w : World) (ha : DS w ba va 16 u) (hb : DS w bb vb 16 v) :
    Calls Tryz.prog 80 #[va, vb] w fun e w' => Below w.heap.size w w' ∧ ∃ r, e = .returned r ∧ DS w' 0 r 16 (u * v % Q') := by
  have H1 := Lib.hid (rtimes_any 16 16 u v _ _ _ _ w ha hb)
  have HP := Lib.hid (show u * v < 65536 ^ (16 + 16) by rw [Nat.pow_add]; exact Nat.mul_lt_mul'' ha.2.1 hb.2.1)
  clear ha hb
  go_enter Tryz.func80, Tryz.ntmps80
  go_wp2_with fail
  refine H1.out.mono ?_
  rintro e w1 ⟨hb1, r1, rfl, ho1⟩
  have D1 := Lib.hid (show DS w1 _ r1 (16 + 16) (u * v) from ⟨ho1, HP.out, by decide, by decide⟩)
  have B1 := Lib.hid hb1
  clear hb1 ho1
  go_wp2_with fail
  refine (rreduce_any _ _ _ _ _ D1.out (by decide)).mono ?_
  rintro e w2 ⟨hb2, r2, rfl, hd2⟩
  have B2 := Lib.hid (B1.out.trans (hb2.mono B1.out.size))
  have D2 := Lib.hid hd2
  clear hb2 hd2
  go_wp2_with fail
  go_ret
  exact ⟨B2.out, _, rfl, D2.out⟩

set_option maxRecDepth 1000000 in
set_option maxHeartbeats 1000000 in
theorem rfadd_any (n m u v : Nat) (va vb : Value) (ba bb : Nat) (w : World) (ha : DS w ba va n u) (hb : DS w bb vb m v) (hn : 16 ≤ n) (hn1 : n ≤ 90) (hm1 : m ≤ 90) :
    Calls Tryz.prog 109 #[va, vb] w fun e w' => Below w.heap.size w w' ∧ ∃ r, e = .returned r ∧ DS w' 0 r 16 ((u + v) % Q') := by
  have H1 := Lib.hid (radd_any n m u v _ _ _ _ w ha hb)
  have HN := Lib.hid (show 16 ≤ n ∧ n ≤ 90 ∧ m ≤ 90 from ⟨hn, hn1, hm1⟩)
  clear ha hb hn hn1 hm1
  go_enter Tryz.func109, Tryz.ntmps109
  go_wp2_with fail
  refine H1.out.mono ?_
  rintro e w1 ⟨hb1, r1, k1, rfl, p1, p2, p3, p4, ho1⟩
  have D1 := Lib.hid (show DS w1 _ r1 k1 (u + v) from ⟨ho1, p4, by have := HN.out; omega, by have := HN.out; omega⟩)
  have K1 := Lib.hid (show 16 ≤ k1 by have := HN.out; omega)
  have B1 := Lib.hid hb1
  clear hb1 ho1 p1 p2 p3 p4
  go_wp2_with fail
  refine (rreduce_any _ _ _ _ _ D1.out K1.out).mono ?_
  rintro e w2 ⟨hb2, r2, rfl, hd2⟩
  have B2 := Lib.hid (B1.out.trans (hb2.mono B1.out.size))
  have D2 := Lib.hid hd2
  clear hb2 hd2
  go_wp2_with fail
  go_ret
  exact ⟨B2.out, _, rfl, D2.out⟩

set_option maxRecDepth 1000000 in
set_option maxHeartbeats 1000000 in
theorem rfsub_any (u v : Nat) (va vb : Value) (ba bb : Nat) (w : World) (ha : DS w ba va 16 u) (hb : DS w bb vb 16 v) (hv : v ≤ Q') :
    Calls Tryz.prog 108 #[va, vb] w fun e w' => Below w.heap.size w w' ∧ ∃ r, e = .returned r ∧ DS w' 0 r 16 ((u + (Q' - v)) % Q') := by
  have HA := Lib.hid ha
  have HB := Lib.hid hb
  have HV := Lib.hid hv
  clear ha hb hv
  go_enter Tryz.func108, Tryz.ntmps108
  go_wp2_with fail
  refine (rprime_any w).mono ?_
  rintro e w1 ⟨hb1, r1, rfl, ho1⟩
  have DP := Lib.hid (show DS w1 _ r1 16 Q' from ⟨ho1, by decide, by decide, by decide⟩)
  have B1 := Lib.hid hb1
  clear hb1 ho1
  go_wp2_with fail
  refine (rminus_any Q' v _ _ _ _ _ DP.out (HB.out.on B1.out) HV.out).mono ?_
  rintro e w2 ⟨hb2, r2, rfl, ho2⟩
  have DM := Lib.hid (show DS w2 _ r2 16 (Q' - v) from ⟨ho2, Nat.lt_of_le_of_lt (Nat.sub_le _ _) Q_pow, by decide, by decide⟩)
  have B2 := Lib.hid (B1.out.trans (hb2.mono B1.out.size))
  clear hb2 ho2 DP B1
  go_wp2_with fail
  refine (radd_any 16 16 u (Q' - v) _ _ _ _ _ (HA.out.on B2.out) DM.out).mono ?_
  rintro e w3 ⟨hb3, r3, k3, rfl, p1, p2, p3, p4, ho3⟩
  have D3 := Lib.hid (show DS w3 _ r3 k3 (u + (Q' - v)) from ⟨ho3, p4, by omega, by omega⟩)
  have K3 := Lib.hid p1
  have B3 := Lib.hid (B2.out.trans (hb3.mono B2.out.size))
  clear hb3 ho3 p1 p2 p3 p4 DM B2
  go_wp2_with fail
  refine (rreduce_any _ _ _ _ _ D3.out K3.out).mono ?_
  rintro e w4 ⟨hb4, r4, rfl, hd4⟩
  have B4 := Lib.hid (B3.out.trans (hb4.mono B3.out.size))
  have D4 := Lib.hid hd4
  clear hb4 hd4
  go_wp2_with fail
  go_ret
  exact ⟨B4.out, _, rfl, D4.out⟩

theorem small_digits (n : Nat) (h : n < 65536 * 65536) : ((dgn 65536 16 0).set 0 (n % 65536)).set 1 (n / 65536) = dgn 65536 16 n := by
  apply List.ext_getElem?
  intro i
  by_cases hi : i < 16
  · rw [dg_get _ _ _ _ hi, List.getElem?_set, List.length_set, length_dgn, List.getElem?_set, length_dgn, dg_get _ _ _ _ hi]
    match i with
    | 0 => simp
    | 1 =>
      simp
      omega
    | i + 2 =>
      rw [if_neg (by omega), if_neg (by omega)]
      have : n / 65536 ^ (i + 2) = 0 := Nat.div_eq_of_lt (Nat.lt_of_lt_of_le h (by rw [Nat.pow_add, show 65536 * 65536 = 65536 ^ 2 by decide]; exact Nat.le_mul_of_pos_left _ (Nat.pow_pos (by decide))))
      rw [this]
      simp
  · rw [List.getElem?_eq_none (by simp [length_dgn]; omega), List.getElem?_eq_none (by rw [length_dgn]; omega)]

set_option maxRecDepth 1000000 in
set_option maxHeartbeats 1000000 in
theorem rfsmall_any (n : Nat) (hn : n < 4294967296) (w : World) :
    Calls Tryz.prog 76 #[.int .i64 (n : Int)] w fun e w' => Below w.heap.size w w' ∧ ∃ r, e = .returned r ∧ DS w' 0 r 16 n := by
  obtain ⟨i0, hi, hz0, hz1, hz2⟩ : ∃ i, Tryz.prog.info? 3 = some i ∧ i.zero = some (.int .i64 0) ∧ i.size = 1 ∧ i.bytes = 8 := ⟨_, rfl, rfl, rfl, rfl⟩
  have n0 : (0 : Int) ≤ (n : Int) := by omega
  have n1 : (n : Int) < 4294967296 := by omega
  have HD := Lib.hid (small_digits n (by omega))
  have HL := Lib.hid (show n < 65536 ^ 16 by omega)
  clear hn
  go_enter Tryz.func76, Tryz.ntmps76
  go_wp2_with (at_make; refine wpList_make_full w rfl (.const (.int .i64 16)) (.const (.int .i64 16)) 105 rfl w.heap.size 3 i0 (.int .i64 0) 1 Tryz.underlying105 hi hz0 hz1 .i64 .i64 16 16 16 rfl rfl rfl rfl (by rw [hz2]; decide) (by decide) (Nat.le_refl _) ?_)
  intro w1 h1 h2
  have R0 := Lib.hid (show TSt w.heap.size 16 w (dgn 65536 16 0) w1 from ⟨by rw [← made_zeros]; exact h1, (Below.refl w.heap.size w).grown h2 (Nat.le_refl _) (fun k hk => by cases hk)⟩)
  clear h1 h2
  have f0 := R0.out.free 0
  have f1 := R0.out.free 1
  have c0 := R0.out.cell 0 0 (by decide) (by decide)
  have c1 := R0.out.cell 1 0 (by decide) (by decide)
  have R1 := Lib.hid ((R0.out.put 0 (n % 65536) (.int .i64 ((n : Int) % 65536)) (by simp)).put 1 (n / 65536) (.int .i64 ((n : Int) / 65536)) (by simp))
  generalize w.heap.size = g at *
  go_wp2_with fail
  go_ret
  exact ⟨R1.out.bel, _, rfl, (show DS _ 0 _ 16 n from ⟨(show DS _ w.heap.size _ 16 n from ⟨by have := R1.out.own; rw [HD.out] at this; exact this, HL.out, by decide, by decide⟩).base (Nat.zero_le _) |>.1, HL.out, by decide, by decide⟩)⟩
end Go.Proofs.YtfckjilhkdlpfaaGreatDoor

namespace Go.Proofs.YtfckjilhkdlpfaaGreatDoor
open Go.RowKit MS
section
variable {P : Program} {ops : Array Oper} {Q : Exit → Act → World → Prop}
theorem wpAnyH_take_at {md : Region.Mode} {S : World → Prop} {i d : Nat} {oi : Oper} {v : Value} {fuel : Nat} {listed : Array Bool} {a : Act} {w : World} (hi : ops[i]? = some oi)
    (hs : Region.noSelect ops = true) (hf : Region.free md ops listed i = true) (hr : (Region.ready md ops listed).contains i = true)
    (hQ : ∀ c a w, Q (.panic c) (a.put (some d) v) w → Q (.panic c) a w) (hd : oi.dst = some d) (hy : YieldsIf P ops S oi v a) (hS : S w)
    (h : wpAnyH P md ops Q S fuel (listed.setIfInBounds i true) (a.put (some d) v) w) : wpAnyH P md ops Q S (fuel + 1) listed a w :=
  wpAnyH_take hi hs hf hr (by rw [hd]; exact hQ) hy hS (by rw [hd]; exact h)
theorem wpOp_build1 {i : Nat} {o : Oper} {d s U E : Nat} {u : Value} {K : Act → World → Prop} {a : Act} {w : World} (hi : ops[i]? = some o) (hg : o.guard = none) (hd : o.dst = some d) (ho : o.op = .buildSlice U 1 #[(0, .tmp s)])
    (hrun : (Instr.buildSlice U 1 #[(0, u)]).run P w = .ok (.slice (some ⟨w.heap.size, 0, none⟩) 1 1) (w.alloc (.cells #[u] E (0, 0)))) (hu : a.eval (.tmp s) = u)
    (h : K (a.put (some d) (.slice (some ⟨w.heap.size, 0, none⟩) 1 1)) (w.alloc (.cells #[u] E (0, 0)))) : wpOp P ops Q i K a w := by
  unfold wpOp
  simp only [hi]
  have hw : Region.wanted o (yielded ops a.tmps) = true := by simp [Region.wanted, hg]
  rw [if_pos hw]
  refine .inl ?_
  unfold Oper.wp execOp
  simp only [ho, List.map_toArray, List.map_cons, List.map_nil, hu, Sem.run_bind, Sem.run_pure, Result.andThen_ok, hrun, Oper.upon, hd]
  exact h
theorem wpOp_app1 {i : Nat} {o : Oper} {d s x U E B n g : Nat} {i0 : TypeInfo} {z v u : Value} {xs : List Value} {K : Act → World → Prop} {a : Act} {w w0 : World} (hi : ops[i]? = some o) (hg : o.guard = none) (hd : o.dst = some d)
    (ho : o.op = .call { callee := .builtin .append, args := #[.tmp s, .tmp x], argTypes := #[U, U] }) (ht : P.underlying U = some (.slice E)) (hi0 : P.info? E = some i0) (hz : i0.zero = some z) (hz1 : i0.size = 1) (hz2 : i0.bytes = B) (hzs : z.cells.size = 1)
    (hs : a.eval (.tmp s) = v) (hx : a.eval (.tmp x) = .slice (some ⟨g, 0, none⟩) 1 1) (hown : w.ownsRow w0.heap.size E 1 v n xs) (hbel : Below w0.heap.size w0 w) (hrow : w.heap[g]? = some (.cells #[u] E (0, 0))) (hu : u.oneCell' = true)
    (h63 : n + 1 ≤ maxLen) (hbytes : (n + 1) * B ≤ 140737488355328)
    (h : ∀ v' w', w'.ownsRow w0.heap.size E 1 v' (n + 1) (xs ++ [u]) → Below w0.heap.size w0 w' → (∀ g' o', v.ownBlock ≠ some g' → w.heap[g']? = some o' → w'.heap[g']? = some o') → w.heap.size ≤ w'.heap.size → K (a.put (some d) v') w') : wpOp P ops Q i K a w := by
  unfold wpOp
  simp only [hi]
  have hw : Region.wanted o (yielded ops a.tmps) = true := by simp [Region.wanted, hg]
  rw [if_pos hw]
  refine .inl ?_
  refine wp_append_lies w (.tmp s) (.tmp x) U ho w0.heap.size E i0 z 1 B ht hi0 hz hz1 hz2 hzs (by decide) v n xs hs hown ⟨g, 0, none⟩ 1 1 [u] hx rfl (World.news_of_block (cs := #[u]) hrow) (by intro y hy; rw [List.mem_singleton.1 hy]; exact hu) (by decide) h63 hbytes hbel.size _ rfl ?_
  intro g' cap w' h1 h2 _ _
  rw [hd]
  refine h _ _ h1 (hbel.grown h2 hbel.size (fun m hm => (hown.lt m hm).1)) (fun k o' hk ho' => ?_) h2.size
  have hlt : k < w.heap.size := (Array.getElem?_eq_some_iff.1 ho').1
  rw [h2.block k hlt (Ne.symm hk)]
  exact ho'
theorem wpOp_assign {i : Nat} {o : Oper} {d s : Nat} {v : Value} {K : Act → World → Prop} {a : Act} {w : World} (hi : ops[i]? = some o) (hg : o.guard = none) (hd : o.dst = some d) (ho : o.op = .assign (.tmp s)) (hv : a.eval (.tmp s) = v) (h : K (a.put (some d) v) w) : wpOp P ops Q i K a w := by
  unfold wpOp
  simp only [hi]
  have hw : Region.wanted o (yielded ops a.tmps) = true := by simp [Region.wanted, hg]
  rw [if_pos hw]
  refine .inl ?_
  unfold Oper.wp
  rw [BigFrame.run_assign (.tmp s) ho]
  simp only [Oper.upon, hd, hv]
  exact h

/-- A slice that the function owns, a class of worlds. -/
theorem two_app {L : Array Bool} {A : Act} {w w0 : World} {i1 i2 i3 i4 i5 U E B n s0 d1 d2 d3 d4 d5 x1 x3 : Nat} {o1 o2 o3 o4 o5 : Oper} {i0 : TypeInfo} {z v u1 u2 : Value} {xs : List Value}
    (h1 : ops[i1]? = some o1) (h2 : ops[i2]? = some o2) (h3 : ops[i3]? = some o3) (h4 : ops[i4]? = some o4) (h5 : ops[i5]? = some o5)
    (g1 : o1.guard = none) (g2 : o2.guard = none) (g3 : o3.guard = none) (g4 : o4.guard = none) (g5 : o5.guard = none)
    (e1 : o1.dst = some d1) (e2 : o2.dst = some d2) (e3 : o3.dst = some d3) (e4 : o4.dst = some d4) (e5 : o5.dst = some d5)
    (p1 : o1.op = .buildSlice U 1 #[(0, .tmp x1)]) (p3 : o3.op = .buildSlice U 1 #[(0, .tmp x3)])
    (p2 : o2.op = .call { callee := .builtin .append, args := #[.tmp s0, .tmp d1], argTypes := #[U, U] })
    (p4 : o4.op = .call { callee := .builtin .append, args := #[.tmp d2, .tmp d3], argTypes := #[U, U] }) (p5 : o5.op = .assign (.tmp d4))
    (r0 : Region.ready .any ops L = [i1, i3]) (r1 : Region.ready .any ops (L.setIfInBounds i1 true) = [i2, i3]) (r3 : Region.ready .any ops (L.setIfInBounds i3 true) = [i1])
    (r12 : Region.ready .any ops ((L.setIfInBounds i1 true).setIfInBounds i2 true) = [i3]) (r13 : Region.ready .any ops ((L.setIfInBounds i1 true).setIfInBounds i3 true) = [i2])
    (r4 : Region.ready .any ops (((L.setIfInBounds i1 true).setIfInBounds i2 true).setIfInBounds i3 true) = [i4])
    (r5 : Region.ready .any ops ((((L.setIfInBounds i1 true).setIfInBounds i2 true).setIfInBounds i3 true).setIfInBounds i4 true) = [i5])
    (r6 : Region.ready .any ops (((((L.setIfInBounds i1 true).setIfInBounds i2 true).setIfInBounds i3 true).setIfInBounds i4 true).setIfInBounds i5 true) = [])
    (hne : d1 ≠ d2 ∧ d1 ≠ d3 ∧ d2 ≠ d3 ∧ d1 ≠ s0 ∧ d3 ≠ s0 ∧ d1 ≠ x3 ∧ d2 ≠ x3 ∧ d3 ≠ x1 ∧ i1 ≠ i3 ∧ i2 ≠ i3) (hsz : d1 < A.tmps.size ∧ d2 < A.tmps.size ∧ d3 < A.tmps.size ∧ d4 < A.tmps.size)
    (ht : P.underlying U = some (.slice E)) (hi0 : P.info? E = some i0) (hz : i0.zero = some z) (hz1 : i0.size = 1) (hz2 : i0.bytes = B) (hzs : z.cells.size = 1)
    (hrun : ∀ (u : Value) (w : World), u.oneCell' = true → (Instr.buildSlice U 1 #[(0, u)]).run P w = .ok (.slice (some ⟨w.heap.size, 0, none⟩) 1 1) (w.alloc (.cells #[u] E (0, 0))))
    (hv : A.eval (.tmp s0) = v) (hu1 : A.eval (.tmp x1) = u1) (hu2 : A.eval (.tmp x3) = u2) (c1 : u1.oneCell' = true) (c2 : u2.oneCell' = true)
    (hown : w.ownsRow w0.heap.size E 1 v n xs) (hbel : Below w0.heap.size w0 w) (h63 : n + 2 ≤ maxLen) (hbytes : (n + 2) * B ≤ 140737488355328)
    (hK : ∀ t1 t2 t3 t4 w', w'.ownsRow w0.heap.size E 1 t4 (n + 2) (xs ++ [u1, u2]) → Below w0.heap.size w0 w' → Q .normal (((((A.put (some d1) t1).put (some d2) t2).put (some d3) t3).put (some d4) t4).put (some d5) t4) w') :
    wpAnyH P .any ops Q (fun w' => Below w0.heap.size w0 w') 5 L A w := by
  obtain ⟨n12, n13, n23, n1s, n3s, n1x, n2x, n3x, m13, m23⟩ := hne
  obtain ⟨z1, z2, z3, z4⟩ := hsz
  have sz : ∀ (a : Act) d v, (a.put d v).tmps.size = a.tmps.size := fun a d v => by cases d <;> simp [Act.put]
  have cm : ∀ (a : Act) (x y : Nat) v u, x ≠ y → (a.put (some x) v).put (some y) u = (a.put (some y) u).put (some x) v := fun a x y v u h => Act.put_comm a v u (by intro d hd e; cases hd; cases e; exact h rfl)
  have ne : ∀ (a : Act) (d j : Nat) v, d ≠ j → (a.put (some d) v).eval (.tmp j) = a.eval (.tmp j) := Act.eval_put_ne
  -- the last append, and the assignment
  have F4 : ∀ t1 t2 b3 w', w'.ownsRow w0.heap.size E 1 t2 (n + 1) (xs ++ [u1]) → w'.heap[b3]? = some (.cells #[u2] E (0, 0)) → Below w0.heap.size w0 w' →
      wpAnyH P .any ops Q (fun w' => Below w0.heap.size w0 w') 2 (((L.setIfInBounds i1 true).setIfInBounds i2 true).setIfInBounds i3 true) (((A.put (some d1) t1).put (some d2) t2).put (some d3) (.slice (some ⟨b3, 0, none⟩) 1 1)) w' := by
    intro t1 t2 b3 w' ho hr hb
    refine wpAnyH_all r4 (by simp) (List.forall_mem_singleton.2 ?_)
    refine wpOp_app1 h4 g4 e4 p4 ht hi0 hz hz1 hz2 hzs (v := t2) (g := b3) (by rw [ne _ _ _ _ n23.symm]; exact Act.eval_put_same _ _ _ (by rw [sz]; exact z2)) (Act.eval_put_same _ _ _ (by rw [sz, sz]; exact z3)) ho hb hr c2 h63 hbytes ?_
    intro v' w'' ho' hb' _ _
    refine ⟨hb', wpAnyH_all r5 (by simp) (List.forall_mem_singleton.2 ?_)⟩
    refine wpOp_assign h5 g5 e5 p5 (v := v') (Act.eval_put_same _ _ _ (by rw [sz, sz, sz]; exact z4)) ⟨hb', wpAnyH_done r6 ?_ _⟩
    exact hK _ _ _ _ _ (by rw [List.append_assoc] at ho'; exact ho') hb'
  -- the second is built behind the first append
  have F3 : ∀ t1 t2 w', w'.ownsRow w0.heap.size E 1 t2 (n + 1) (xs ++ [u1]) → Below w0.heap.size w0 w' →
      wpAnyH P .any ops Q (fun w' => Below w0.heap.size w0 w') 3 ((L.setIfInBounds i1 true).setIfInBounds i2 true) ((A.put (some d1) t1).put (some d2) t2) w' := by
    intro t1 t2 w' ho hb
    refine wpAnyH_all r12 (by simp) (List.forall_mem_singleton.2 ?_)
    refine wpOp_build1 (u := u2) h3 g3 e3 p3 (hrun _ _ c2) (by rw [ne _ _ _ _ n2x, ne _ _ _ _ n1x]; exact hu2) ⟨below_alloc hb _, ?_⟩
    exact F4 _ _ _ _ (ho.alloc _) (heap_alloc_new _ _) (below_alloc hb _)
  -- both are built
  have F2 : ∀ b1 b3 w', w'.ownsRow w0.heap.size E 1 v n xs → w'.heap[b1]? = some (.cells #[u1] E (0, 0)) → w'.heap[b3]? = some (.cells #[u2] E (0, 0)) → v.ownBlock ≠ some b3 → Below w0.heap.size w0 w' →
      wpAnyH P .any ops Q (fun w' => Below w0.heap.size w0 w') 3 ((L.setIfInBounds i1 true).setIfInBounds i3 true) ((A.put (some d1) (.slice (some ⟨b1, 0, none⟩) 1 1)).put (some d3) (.slice (some ⟨b3, 0, none⟩) 1 1)) w' := by
    intro b1 b3 w' ho hr1 hr3 hno hb
    refine wpAnyH_all r13 (by simp) (List.forall_mem_singleton.2 ?_)
    refine wpOp_app1 h2 g2 e2 p2 ht hi0 hz hz1 hz2 hzs (v := v) (g := b1) (by rw [ne _ _ _ _ n3s, ne _ _ _ _ n1s]; exact hv) (by rw [ne _ _ _ _ n13.symm]; exact Act.eval_put_same _ _ _ z1) ho hb hr1 c1 (by omega) (Nat.le_trans (Nat.mul_le_mul_right _ (by omega)) hbytes) ?_
    intro v' w'' ho' hb' hkeep _
    refine ⟨hb', ?_⟩
    rw [Array.setIfInBounds_comm _ _ (Ne.symm m23), cm _ _ _ _ _ n23.symm]
    exact F4 _ _ _ _ ho' (hkeep _ _ hno hr3) hb'
  have hlt : ∀ w' : World, w'.ownsRow w0.heap.size E 1 v n xs → v.ownBlock ≠ some w'.heap.size := fun w' ho h => by have := (ho.lt _ h).2; omega
  refine wpAnyH_all r0 (by simp) ?_
  intro j hj
  rcases List.mem_cons.1 hj with rfl | hj
  · refine wpOp_build1 (u := u1) h1 g1 e1 p1 (hrun _ _ c1) hu1 ⟨below_alloc hbel _, wpAnyH_all r1 (by simp) ?_⟩
    intro j hj
    rcases List.mem_cons.1 hj with rfl | hj
    · refine wpOp_app1 h2 g2 e2 p2 ht hi0 hz hz1 hz2 hzs (v := v) (g := w.heap.size) (by rw [ne _ _ _ _ n1s]; exact hv) (Act.eval_put_same _ _ _ z1) (hown.alloc _) (below_alloc hbel _) (heap_alloc_new _ _) c1 (by omega) (Nat.le_trans (Nat.mul_le_mul_right _ (by omega)) hbytes) ?_
      intro v' w'' ho' hb' _ _
      exact ⟨hb', F3 _ _ _ ho' hb'⟩
    · rw [List.mem_singleton.1 hj]
      refine wpOp_build1 (u := u2) h3 g3 e3 p3 (hrun _ _ c2) (by rw [ne _ _ _ _ n1x]; exact hu2) ⟨below_alloc (below_alloc hbel _) _, ?_⟩
      refine F2 _ _ _ ((hown.alloc _).alloc _) ?_ (heap_alloc_new _ _) (hlt _ (hown.alloc _)) (below_alloc (below_alloc hbel _) _)
      rw [heap_alloc_old _ _ (by rw [World.size_alloc]; omega)]
      exact heap_alloc_new _ _
  · rw [List.mem_singleton.1 hj]
    refine wpOp_build1 (u := u2) h3 g3 e3 p3 (hrun _ _ c2) hu2 ⟨below_alloc hbel _, wpAnyH_all r3 (by simp) (List.forall_mem_singleton.2 ?_)⟩
    refine wpOp_build1 (u := u1) h1 g1 e1 p1 (hrun _ _ c1) (by rw [ne _ _ _ _ n3x]; exact hu1) ⟨below_alloc (below_alloc hbel _) _, ?_⟩
    rw [Array.setIfInBounds_comm _ _ (Ne.symm m13), cm _ _ _ _ _ n13.symm]
    refine F2 _ _ _ ((hown.alloc _).alloc _) (heap_alloc_new _ _) ?_ (hlt _ hown) (below_alloc (below_alloc hbel _) _)
    rw [heap_alloc_old _ _ (by rw [World.size_alloc]; omega)]
    exact heap_alloc_new _ _
end
end Go.Proofs.YtfckjilhkdlpfaaGreatDoor

namespace Go.Proofs.YtfckjilhkdlpfaaGreatDoor
open Go.RowKit MS
theorem le32_two (u j : Nat) (hj : j < 16) : vls ((le32 u).take (2 * j)) ++ [.int .u8 (((u / 65536 ^ j % 65536 : Nat) : Int) % 256), .int .u8 (((u / 65536 ^ j % 65536 : Nat) : Int) / 256)] = vls ((le32 u).take (2 * (j + 1))) := by
  have hl := length_le32 u
  have h0 : 2 * j < (le32 u).length := by omega
  have h1 : 2 * j + 1 < (le32 u).length := by omega
  have e : (le32 u).take (2 * (j + 1)) = (le32 u).take (2 * j) ++ [(le32 u)[2 * j]'h0, (le32 u)[2 * j + 1]'h1] := by
    rw [show 2 * (j + 1) = 2 * j + 1 + 1 by omega, List.take_succ_eq_append_getElem h1, List.take_succ_eq_append_getElem h0, List.append_assoc]
    rfl
  have p0 : (2 : Nat) ^ (8 * (2 * j)) = 65536 ^ j := by rw [show 8 * (2 * j) = 16 * j by omega, Nat.pow_mul]
  have p1 : (2 : Nat) ^ (8 * (2 * j + 1)) = 65536 ^ j * 256 := by rw [show 8 * (2 * j + 1) = 16 * j + 8 by omega, Nat.pow_add, Nat.pow_mul]
  have k0 : ((le32 u)[2 * j]'h0).toNat = u / 65536 ^ j % 65536 % 256 := by
    simp only [le32, List.getElem_map, List.getElem_range, p0]
    rw [UInt8.toNat_ofNat', Nat.mod_mod_of_dvd _ (by decide : 256 ∣ 65536)]
    exact Nat.mod_mod _ _
  have k1 : ((le32 u)[2 * j + 1]'h1).toNat = u / 65536 ^ j % 65536 / 256 := by
    simp only [le32, List.getElem_map, List.getElem_range, p1]
    rw [UInt8.toNat_ofNat', ← Nat.div_div_eq_div_mul]
    have : ∀ y : Nat, y / 256 % 256 % 2 ^ 8 = y % 65536 / 256 := by intro y; omega
    exact this _
  rw [e]
  unfold vls
  rw [List.map_append]
  congr 1
  simp only [List.map_cons, List.map_nil, valB, k0, k1, Int.natCast_ediv, Int.natCast_emod]
  rfl

theorem wr_u8 (y : Int) (h0 : 0 ≤ y) (h1 : y < 256) : IntKind.u8.wrap y = y := by
  simp [IntKind.wrap, IntKind.signed, IntKind.bits]; omega
theorem wr_i64 (y : Int) (h0 : 0 ≤ y) (h1 : y < 65536) : IntKind.i64.wrap y = y := by
  simp [IntKind.wrap, IntKind.signed, IntKind.bits]; omega

theorem run_build_u8 (u : Value) (w : World) (h : u.oneCell' = true) : (Instr.buildSlice 83 1 #[(0, u)]).run Tryz.prog w = .ok (.slice (some ⟨w.heap.size, 0, none⟩) 1 1) (w.alloc (.cells #[u] 5 (0, 0))) := by
  cases u <;> simp [Value.oneCell'] at h <;> go_simp

set_option maxRecDepth 1000000 in
set_option maxHeartbeats 2000000 in
theorem rfbytes_any (u : Nat) (va : Value) (ba : Nat) (w : World) (ha : DS w ba va 16 u) :
    Calls Tryz.prog 79 #[va] w fun e w' => e = .returned (.string (bs (le32 u))) ∧ Below w.heap.size w w' := by
  obtain ⟨i0, hi, hz0, hz1, hz2⟩ : ∃ i, Tryz.prog.info? 5 = some i ∧ i.zero = some (.int .u8 0) ∧ i.size = 1 ∧ i.bytes = 1 := ⟨_, rfl, rfl, rfl, rfl⟩
  obtain ⟨ga, ca, rfl, -, -⟩ := ha.form
  have HA := Lib.hid ha.cells
  have hown0 : w.ownsRow w.heap.size 5 1 (.slice none 0 0) 0 (vls ((le32 u).take 0)) := World.ownsRow_nil _ _ _ _
  clear ha
  go_enter Tryz.func79, Tryz.ntmps79
  go_wp2_with fail
  go_loopw [3, 4] (fun x i wr => ∃ j : Nat, j ≤ 16 ∧ i = .int .i64 j ∧ wr.ownsRow w.heap.size 5 1 x (2 * j) (vls ((le32 u).take (2 * j))) ∧ Below w.heap.size w wr) (fun _ i _ => 16 - (intOf i).toNat)
  case atStart => exact ⟨0, by omega, rfl, hown0, Below.refl _ _⟩
  case round =>
    obtain ⟨j, hj, rfl, ho, hb⟩ := hrel
    have HOWN := Lib.hid ho
    have HBL := Lib.hid hb
    have HJ := Lib.hid hj
    clear ho hown0 hj hb
    by_cases hlt : j < 16
    · have j1 : (j : Int) < 16 := by omega
      have j0 : (0 : Int) ≤ j := by omega
      have hc : ∀ w', Below w.heap.size w w' → w'.cell? ⟨ga, j, none⟩ = some (.int .i64 ((u / 65536 ^ j % 65536 : Nat) : Int)) := fun w' h => HA.out w' h j hlt
      have HT := Lib.hid (le32_two u j hlt)
      have hx := dig_lt 65536 (by decide) u j
      generalize u / 65536 ^ j % 65536 = x at *
      have x1 : (x : Int) < 65536 := by omega
      have x0 : (0 : Int) ≤ (x : Int) := by omega
      have HC := Lib.hid hc
      have HLT := Lib.hid hlt
      clear hx hlt hc
      go_wp2_with fail
      refine wp_region_held (S := fun w' => Below w.heap.size w w') (by kernel_rfl) ?_
      change wpAnyH _ _ _ _ _ _ _ _ (World.drew _)
      have HS : Below w.heap.size w wr.drew := HBL.out.drew
      refine wpAnyH_take_at (i := 0) (d := 9) (v := u3) rfl (by kernel_rfl) (by kernel_rfl) (by kernel_rfl) (fun _ _ _ h => h) rfl (Or.inl ⟨by rfl, by intro w1 _; go_simp⟩) HS ?_
      simp only [Act.put, List.setIfInBounds_toArray, List.set_cons_zero, List.set_cons_succ]
      refine wpAnyH_take_at (i := 1) (d := 10) (v := .slice (some ⟨ga, 0, none⟩) 16 ca) rfl (by kernel_rfl) (by kernel_rfl) (by kernel_rfl) (fun _ _ _ h => h) rfl (Or.inl ⟨by rfl, by intro w1 _; go_simp⟩) HS ?_
      simp only [Act.put, List.setIfInBounds_toArray, List.set_cons_zero, List.set_cons_succ]
      refine wpAnyH_take_at (i := 2) (d := 11) (v := .int .i64 j) rfl (by kernel_rfl) (by kernel_rfl) (by kernel_rfl) (fun _ _ _ h => h) rfl (Or.inl ⟨by rfl, by intro w1 _; go_simp⟩) HS ?_
      simp only [Act.put, List.setIfInBounds_toArray, List.set_cons_zero, List.set_cons_succ]
      refine wpAnyH_take_at (i := 3) (d := 12) (v := .pointer (some ⟨ga, j, none⟩)) rfl (by kernel_rfl) (by kernel_rfl) (by kernel_rfl) (fun _ _ _ h => h) rfl (Or.inl ⟨by rfl, by intro w1 _; go_simp⟩) HS ?_
      simp only [Act.put, List.setIfInBounds_toArray, List.set_cons_zero, List.set_cons_succ]
      refine wpAnyH_take_at (i := 4) (d := 13) (v := .int .i64 x) rfl (by kernel_rfl) (by kernel_rfl) (by kernel_rfl) (fun _ _ _ h => h) rfl (Or.inl ⟨by rfl, by intro w1 h1; have hc := HC.out w1 h1; go_simp⟩) HS ?_
      simp only [Act.put, List.setIfInBounds_toArray, List.set_cons_zero, List.set_cons_succ]
      refine wpAnyH_take_at (i := 5) (d := 14) (v := .int .i64 ((x : Int) % 256)) rfl (by kernel_rfl) (by kernel_rfl) (by kernel_rfl) (fun _ _ _ h => h) rfl (Or.inl ⟨by rfl, by intro w1 _; go_simp; exact Int.tmod_eq_emod_of_nonneg x0⟩) HS ?_
      simp only [Act.put, List.setIfInBounds_toArray, List.set_cons_zero, List.set_cons_succ]
      refine wpAnyH_take_at (i := 6) (d := 15) (v := .int .u8 ((x : Int) % 256)) rfl (by kernel_rfl) (by kernel_rfl) (by kernel_rfl) (fun _ _ _ h => h) rfl (Or.inl ⟨by rfl, by intro w1 _; go_simp; exact wr_u8 _ (by omega) (by omega)⟩) HS ?_
      simp only [Act.put, List.setIfInBounds_toArray, List.set_cons_zero, List.set_cons_succ]
      refine wpAnyH_take_at (i := 9) (d := 18) (v := .slice (some ⟨ga, 0, none⟩) 16 ca) rfl (by kernel_rfl) (by kernel_rfl) (by kernel_rfl) (fun _ _ _ h => h) rfl (Or.inl ⟨by rfl, by intro w1 _; go_simp⟩) HS ?_
      simp only [Act.put, List.setIfInBounds_toArray, List.set_cons_zero, List.set_cons_succ]
      refine wpAnyH_take_at (i := 10) (d := 19) (v := .int .i64 j) rfl (by kernel_rfl) (by kernel_rfl) (by kernel_rfl) (fun _ _ _ h => h) rfl (Or.inl ⟨by rfl, by intro w1 _; go_simp⟩) HS ?_
      simp only [Act.put, List.setIfInBounds_toArray, List.set_cons_zero, List.set_cons_succ]
      refine wpAnyH_take_at (i := 11) (d := 20) (v := .pointer (some ⟨ga, j, none⟩)) rfl (by kernel_rfl) (by kernel_rfl) (by kernel_rfl) (fun _ _ _ h => h) rfl (Or.inl ⟨by rfl, by intro w1 _; go_simp⟩) HS ?_
      simp only [Act.put, List.setIfInBounds_toArray, List.set_cons_zero, List.set_cons_succ]
      refine wpAnyH_take_at (i := 12) (d := 21) (v := .int .i64 x) rfl (by kernel_rfl) (by kernel_rfl) (by kernel_rfl) (fun _ _ _ h => h) rfl (Or.inl ⟨by rfl, by intro w1 h1; have hc := HC.out w1 h1; go_simp⟩) HS ?_
      simp only [Act.put, List.setIfInBounds_toArray, List.set_cons_zero, List.set_cons_succ]
      refine wpAnyH_take_at (i := 13) (d := 22) (v := .int .i64 ((x : Int) / 256)) rfl (by kernel_rfl) (by kernel_rfl) (by kernel_rfl) (fun _ _ _ h => h) rfl (Or.inl ⟨by rfl, by intro w1 _; go_simp; exact wr_i64 _ (by omega) (by omega)⟩) HS ?_
      simp only [Act.put, List.setIfInBounds_toArray, List.set_cons_zero, List.set_cons_succ]
      refine wpAnyH_take_at (i := 14) (d := 23) (v := .int .u8 ((x : Int) / 256)) rfl (by kernel_rfl) (by kernel_rfl) (by kernel_rfl) (fun _ _ _ h => h) rfl (Or.inl ⟨by rfl, by intro w1 _; go_simp; exact wr_u8 _ (by omega) (by omega)⟩) HS ?_
      simp only [Act.put, List.setIfInBounds_toArray, List.set_cons_zero, List.set_cons_succ]
      refine two_app (i1 := 7) (i2 := 8) (i3 := 15) (i4 := 16) (i5 := 17) (w0 := w) (d1 := 16) (d2 := 17) (d3 := 24) (d4 := 25) (d5 := 3) (s0 := 9) (x1 := 15) (x3 := 23) (U := 83) (E := 5) (B := 1) (n := 2 * j) (v := u3) (u1 := .int .u8 ((x : Int) % 256)) (u2 := .int .u8 ((x : Int) / 256)) (xs := vls ((le32 u).take (2 * j)))
        (by rfl) (by rfl) (by rfl) (by rfl) (by rfl) (by rfl) (by rfl) (by rfl) (by rfl) (by rfl) (by rfl) (by rfl) (by rfl) (by rfl) (by rfl) (by rfl) (by rfl) (by rfl) (by rfl) (by rfl)
        (by kernel_rfl) (by kernel_rfl) (by kernel_rfl) (by kernel_rfl) (by kernel_rfl) (by kernel_rfl) (by kernel_rfl) (by kernel_rfl) (by decide) (by simp) Tryz.underlying83 hi hz0 hz1 hz2 rfl run_build_u8 (by rfl) (by rfl) (by rfl) (by rfl) (by rfl) HOWN.out HS (by have := HLT.out; unfold maxLen; omega) (by have := HLT.out; omega) ?_
      intro t1 t2 t3 t4 w1 ho1 hb1
      rw [HT.out] at ho1
      have HO1 := Lib.hid ho1
      have HB1 := Lib.hid hb1
      clear ho1 hb1
      simp only [Act.put, List.setIfInBounds_toArray, List.set_cons_zero, List.set_cons_succ]
      go_wp2_with fail
      go_roundw
      case rel => exact ⟨j + 1, HLT.out, by go_num, HO1.out, HB1.out⟩
      case measure => simp [intOf]; omega
    · have j1 : ¬ (j : Int) < 16 := by omega
      have hj16 : j = 16 := by have := HJ.out; omega
      subst hj16
      obtain ⟨g, cap, rfl, -, -⟩ := HOWN.out.form (by decide)
      have hconv := conv_out (le32 u) 32 (length_le32 u) (show wr.ownsRow w.heap.size _ 1 (.slice (some ⟨g, 0, none⟩) 32 cap) 32 (vls (le32 u)) from by have := HOWN.out; rwa [List.take_of_length_le (by rw [length_le32]; omega)] at this)
      clear hlt
      go_wp2_with fail
      go_ret
      exact ⟨rfl, HBL.out⟩
end Go.Proofs.YtfckjilhkdlpfaaGreatDoor

namespace Go.Proofs.YtfckjilhkdlpfaaGreatDoor
open Go.RowKit MS
set_option maxRecDepth 1000000 in
set_option maxHeartbeats 2000000 in
theorem rfpower_any (u : Nat) (va : Value) (ba : Nat) (w : World) (ha : DS w ba va 16 u) (hu : u < Q') :
    Calls Tryz.prog 81 #[va] w fun e w' => Below w.heap.size w w' ∧ ∃ r, e = .returned r ∧ DS w' 0 r 16 (u ^ E21 % Q') := by
  have HA := Lib.hid ha
  have HU := Lib.hid (Nat.mod_eq_of_lt hu)
  clear ha hu
  go_enter Tryz.func81, Tryz.ntmps81
  go_wp2_with fail
  refine (rfsmall_any 1 (by decide) w).mono ?_
  rintro e w1 ⟨hb1, r1, rfl, hd1⟩
  have R0 := Lib.hid (show DS w1 0 r1 16 (powA u 255) ∧ Below w.heap.size w w1 from ⟨by rw [powA_top]; exact hd1, hb1⟩)
  clear hb1 hd1
  go_wp2_with fail
  go_loopw [3, 4] (fun x i wr => ∃ d : Nat, d ≤ 255 ∧ i = .int .i64 ((d : Int) - 1) ∧ DS wr 0 x 16 (powA u d) ∧ Below w.heap.size w wr) (fun _ i _ => (intOf i + 1).toNat)
  case atStart => exact ⟨255, by decide, rfl, R0.out.1, R0.out.2⟩
  case round =>
    obtain ⟨d, hd, rfl, hds, hb⟩ := hrel
    have HD := Lib.hid hds
    have HB := Lib.hid hb
    have HDD := Lib.hid hd
    clear hds hb hd R0
    cases d with
    | zero =>
      have HE := Lib.hid (powA_end u)
      go_wp2_with fail
      go_ret
      exact ⟨HB.out, _, rfl, by have := HD.out; rw [HE.out] at this; exact this⟩
    | succ d =>
      have e1 : ((d + 1 : Nat) : Int) - 1 = (d : Int) := by omega
      rw [e1]
      have j1 : (d : Int) ≥ 0 := by omega
      have j2 : (d : Int) ≤ 254 := by have := HDD.out; omega
      go_wp2_with fail
      refine (rfmul_any _ _ _ _ _ _ _ HD.out HD.out).mono ?_
      rintro e w2 ⟨hb2, r2, rfl, hd2⟩
      have B2 := Lib.hid (HB.out.trans (hb2.mono HB.out.size))
      have A2 := Lib.hid (HA.out.on B2.out)
      have D2 := Lib.hid hd2
      clear hb2 hd2 HB e1
      by_cases h24 : d = 2 ∨ d = 4
      · have HP := Lib.hid (powA_sq u d (by have := HDD.out; omega) h24)
        rcases h24 with h | h
        · have q2 : ((d : Int) != 2) = false := by simp; omega
          have q3 : (d : Int) = 2 := by omega
          clear h
          go_wp2_with fail
          go_roundw
          case rel => exact ⟨d, by have := HDD.out; omega, by go_num, by have := D2.out; rw [HP.out] at this; exact this, B2.out⟩
          case measure => simp [intOf]; omega
        · have q2 : ((d : Int) != 2) = true := by simp; omega
          have q3 : ¬ (d : Int) = 2 := by omega
          have q4 : ((d : Int) != 4) = false := by simp; omega
          have q5 : (d : Int) = 4 := by omega
          clear h
          go_wp2_with fail
          go_roundw
          case rel => exact ⟨d, by have := HDD.out; omega, by go_num, by have := D2.out; rw [HP.out] at this; exact this, B2.out⟩
          case measure => simp [intOf]; omega
      · have HP := Lib.hid (powA_sqm u d (by have := HDD.out; omega) h24)
        have q2 : ((d : Int) != 2) = true := by simp; omega
        have q3 : ¬ (d : Int) = 2 := by omega
        have q4 : ((d : Int) != 4) = true := by simp; omega
        have q5 : ¬ (d : Int) = 4 := by omega
        clear h24
        go_wp2_with fail
        refine (rfmul_any _ _ _ _ _ _ _ D2.out A2.out).mono ?_
        rintro e w3 ⟨hb3, r3, rfl, hd3⟩
        have B3 := Lib.hid (B2.out.trans (hb3.mono B2.out.size))
        have D3 := Lib.hid (show DS w3 0 r3 16 (powA u d) from by rw [← HP.out, HU.out]; exact hd3)
        clear hb3 hd3 D2 A2 B2
        go_wp2_with fail
        go_roundw
        case rel => exact ⟨d, by have := HDD.out; omega, by go_num, D3.out, B3.out⟩
        case measure => simp [intOf]
end Go.Proofs.YtfckjilhkdlpfaaGreatDoor
