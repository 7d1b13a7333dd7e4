/-
  Numbers in digits to a base: plain facts on sums, differences, products. No program stands in them.
-/
namespace MS
/-- The n lowest digits of v to the base B. -/
def dgn (B n v : Nat) : List Nat := (List.range n).map fun i => v / B ^ i % B
theorem length_dgn (B n v : Nat) : (dgn B n v).length = n := by simp [dgn]
theorem dg_get (B n v i : Nat) (h : i < n) : (dgn B n v)[i]? = some (v / B ^ i % B) := by simp [dgn, h]
theorem dg_succ (B n v : Nat) : dgn B (n + 1) v = dgn B n v ++ [v / B ^ n % B] := by simp [dgn, List.range_succ]
theorem dig_mod (B n v i : Nat) (h : i < n) : v % B ^ n / B ^ i % B = v / B ^ i % B := by
  obtain ⟨k, rfl⟩ : ∃ k, n = i + (k + 1) := ⟨n - i - 1, by omega⟩
  rw [Nat.pow_add, Nat.mod_mul_right_div_self, Nat.pow_succ, Nat.mul_comm, Nat.mod_mul_right_mod]
theorem dg_congr (B n v u : Nat) (h : v % B ^ n = u % B ^ n) : dgn B n v = dgn B n u := by
  apply List.ext_getElem?
  intro i
  by_cases hi : i < n
  · rw [dg_get _ _ _ _ hi, dg_get _ _ _ _ hi, ← dig_mod B n v i hi, h, dig_mod B n u i hi]
  · rw [List.getElem?_eq_none (by rw [length_dgn]; omega), List.getElem?_eq_none (by rw [length_dgn]; omega)]
theorem dg_mod (B n v : Nat) : dgn B n (v % B ^ n) = dgn B n v := dg_congr _ _ _ _ (Nat.mod_mod _ _)
theorem dig_lt (B : Nat) (hB : 0 < B) (v i : Nat) : v / B ^ i % B < B := Nat.mod_lt _ hB
theorem dig_zero {B n v i : Nat} (h : v < B ^ n) (hB : 0 < B) (hi : n ≤ i) : v / B ^ i % B = 0 := by
  rw [Nat.div_eq_of_lt (Nat.lt_of_lt_of_le h (Nat.pow_le_pow_right hB hi)), Nat.zero_mod]
theorem mod_succ (B v i : Nat) : v % B ^ (i + 1) = v % B ^ i + B ^ i * (v / B ^ i % B) := by
  rw [Nat.pow_succ, Nat.mod_mul]
/-- The top digit is nought: one digit fewer does. -/
theorem lt_of_top {B n v : Nat} (h : v < B ^ (n + 1)) (h0 : v / B ^ n % B = 0) : v < B ^ n := by
  have h1 := mod_succ B v n
  rw [Nat.mod_eq_of_lt h, h0, Nat.mul_zero, Nat.add_zero] at h1
  rw [h1]
  refine Nat.mod_lt _ ?_
  rcases Nat.eq_zero_or_pos (B ^ n) with e | e
  · rw [Nat.pow_succ, e, Nat.zero_mul] at h
    omega
  · exact e
theorem ge_of_top {B n v : Nat} (h0 : v / B ^ n % B ≠ 0) : B ^ n ≤ v := by
  refine Nat.le_of_not_lt fun hl => h0 ?_
  rw [Nat.div_eq_of_lt hl, Nat.zero_mod]

/-- add: what is carried into place i. -/
def cry (B u v i : Nat) : Nat := (u % B ^ i + v % B ^ i) / B ^ i
theorem cry_zero (B u v : Nat) : cry B u v 0 = 0 := by simp [cry, Nat.mod_one]
theorem cry_le (B u v i : Nat) (hB : 0 < B) : cry B u v i ≤ 1 := by
  have hX : 0 < B ^ i := Nat.pow_pos hB
  have h1 := Nat.mod_lt u hX
  have h2 := Nat.mod_lt v hX
  unfold cry
  rw [← Nat.lt_succ_iff, Nat.div_lt_iff_lt_mul hX]
  omega
theorem add_sum (B u v i : Nat) (hB : 0 < B) : (u + v) / B ^ i = cry B u v i + u / B ^ i + v / B ^ i := by
  have hX : 0 < B ^ i := Nat.pow_pos hB
  unfold cry
  generalize B ^ i = X at hX
  have h1 : u + v = u % X + v % X + X * (u / X + v / X) := by
    have := Nat.div_add_mod u X; have := Nat.div_add_mod v X
    rw [Nat.mul_add]; omega
  conv => lhs; rw [h1, Nat.add_mul_div_left _ _ hX]
  omega
theorem add_digit (B u v i : Nat) (hB : 0 < B) : (u + v) / B ^ i % B = (cry B u v i + u / B ^ i % B + v / B ^ i % B) % B := by
  rw [add_sum B u v i hB]
  simp [Nat.add_mod]
theorem add_carry (B u v i : Nat) (hB : 0 < B) : cry B u v (i + 1) = (cry B u v i + u / B ^ i % B + v / B ^ i % B) / B := by
  have hX : 0 < B ^ i := Nat.pow_pos hB
  unfold cry
  rw [mod_succ, mod_succ, Nat.pow_succ, ← Nat.div_div_eq_div_mul]
  congr 1
  generalize B ^ i = X at hX
  have h1 : u % X + X * (u / X % B) + (v % X + X * (v / X % B)) = u % X + v % X + X * (u / X % B + v / X % B) := by rw [Nat.mul_add]; omega
  rw [h1, Nat.add_mul_div_left _ _ hX]
  omega
/-- add ends where both are over and nothing is carried. -/
theorem add_ends {B u v n m i : Nat} (hu : u < B ^ n) (hv : v < B ^ m) (hB : 0 < B) (hn : n ≤ i) (hm : m ≤ i) (hc : cry B u v i = 0) : u + v < B ^ i := by
  have hX : 0 < B ^ i := Nat.pow_pos hB
  have h1 : u < B ^ i := Nat.lt_of_lt_of_le hu (Nat.pow_le_pow_right hB hn)
  have h2 : v < B ^ i := Nat.lt_of_lt_of_le hv (Nat.pow_le_pow_right hB hm)
  unfold cry at hc
  rw [Nat.mod_eq_of_lt h1, Nat.mod_eq_of_lt h2] at hc
  refine Nat.lt_of_not_le fun hle => ?_
  have := Nat.div_pos hle hX
  omega
/-- times: the sum so far, and what is carried. -/
def tsum (B u v i k : Nat) : Nat := (u % B ^ i * v) % B ^ (i + k) + B ^ i * (u / B ^ i % B) * (v % B ^ k)
theorem tsum_zero (B u v i : Nat) : tsum B u v i 0 = u % B ^ i * v % B ^ i := by simp [tsum, Nat.mod_one]
theorem tsum_succ (B u v i k : Nat) : tsum B u v i (k + 1) = tsum B u v i k + B ^ (i + k) * ((u % B ^ i * v) / B ^ (i + k) % B + u / B ^ i % B * (v / B ^ k % B)) := by
  unfold tsum
  rw [← Nat.add_assoc, mod_succ B (u % B ^ i * v) (i + k), mod_succ B v k, Nat.pow_add, Nat.mul_add, Nat.mul_add]
  generalize u % B ^ i * v / (B ^ i * B ^ k) % B = a
  generalize u % B ^ i * v % (B ^ i * B ^ k) = a2
  generalize u / B ^ i % B = b
  generalize v / B ^ k % B = c
  have : B ^ i * b * (B ^ k * c) = B ^ i * B ^ k * (b * c) := by
    rw [Nat.mul_assoc, Nat.mul_assoc]
    congr 1
    rw [Nat.mul_left_comm]
  omega
theorem tsum_step (B u v i k : Nat) (hB : 0 < B) : tsum B u v i (k + 1) / B ^ (i + k) = tsum B u v i k / B ^ (i + k) + ((u % B ^ i * v) / B ^ (i + k) % B + u / B ^ i % B * (v / B ^ k % B)) := by
  rw [tsum_succ, Nat.add_mul_div_left _ _ (Nat.pow_pos hB)]
theorem tsum_digit (B u v i k : Nat) (hB : 0 < B) : tsum B u v i (k + 1) / B ^ (i + k) % B = (tsum B u v i k / B ^ (i + k) + ((u % B ^ i * v) / B ^ (i + k) % B + u / B ^ i % B * (v / B ^ k % B))) % B := by
  rw [tsum_step _ _ _ _ _ hB]
theorem tsum_carry (B u v i k : Nat) (hB : 0 < B) : tsum B u v i (k + 1) / B ^ (i + (k + 1)) = (tsum B u v i k / B ^ (i + k) + ((u % B ^ i * v) / B ^ (i + k) % B + u / B ^ i % B * (v / B ^ k % B))) / B := by
  rw [← tsum_step _ _ _ _ _ hB, ← Nat.add_assoc, Nat.pow_succ, Nat.div_div_eq_div_mul]
theorem tsum_low (B u v i k : Nat) : tsum B u v i (k + 1) % B ^ (i + k) = tsum B u v i k % B ^ (i + k) := by
  rw [tsum_succ, Nat.add_mul_mod_self_left]
theorem tsum_c0 (B u v i : Nat) (hB : 0 < B) : tsum B u v i 0 / B ^ (i + 0) = 0 := by
  rw [tsum_zero, Nat.add_zero, Nat.div_eq_of_lt (Nat.mod_lt _ (Nat.pow_pos hB))]
theorem tsum_end (B u v i m : Nat) (hB : 0 < B) (hv : v < B ^ m) : tsum B u v i m = u % B ^ (i + 1) * v := by
  have h1 : u % B ^ i * v < B ^ (i + m) := by
    rw [Nat.pow_add]
    have h2 := Nat.mod_lt u (Nat.pow_pos (n := i) hB)
    rcases Nat.eq_zero_or_pos v with e | e
    · subst e; rw [Nat.mul_zero]; exact Nat.mul_pos (Nat.pow_pos hB) (Nat.pow_pos hB)
    · exact Nat.lt_trans (Nat.mul_lt_mul_of_pos_right h2 e) (Nat.mul_lt_mul_of_pos_left hv (Nat.pow_pos hB))
  rw [tsum, Nat.mod_eq_of_lt h1, Nat.mod_eq_of_lt hv, mod_succ, Nat.add_mul]
theorem prod_lt_pow {B n m u v : Nat} (hu : u < B ^ n) (hv : v < B ^ m) (hB : 0 < B) : u * v < B ^ (n + m) := by
  rw [Nat.pow_add]
  rcases Nat.eq_zero_or_pos v with e | e
  · subst e; rw [Nat.mul_zero]; exact Nat.mul_pos (Nat.pow_pos hB) (Nat.pow_pos hB)
  · exact Nat.lt_trans (Nat.mul_lt_mul_of_pos_right hu e) (Nat.mul_lt_mul_of_pos_left hv (Nat.pow_pos hB))
/-- What is carried stays below the base, so that every sum stays small. -/
theorem tsum_c_lt (B u v i k : Nat) (hB : 0 < B) : tsum B u v i k / B ^ (i + k) < B := by
  induction k with
  | zero => rw [tsum_c0 _ _ _ _ hB]; exact hB
  | succ k ih =>
    rw [tsum_carry _ _ _ _ _ hB, Nat.div_lt_iff_lt_mul hB]
    have h1 : (u % B ^ i * v) / B ^ (i + k) % B < B := Nat.mod_lt _ hB
    have h2 : u / B ^ i % B < B := Nat.mod_lt _ hB
    have h3 : v / B ^ k % B < B := Nat.mod_lt _ hB
    have h4 : u / B ^ i % B * (v / B ^ k % B) ≤ (B - 1) * (B - 1) := Nat.mul_le_mul (by omega) (by omega)
    have h5 : (B - 1) * (B - 1) + (B + B) = B * B + 1 := by
      obtain ⟨c, rfl⟩ : ∃ c, B = c + 1 := ⟨B - 1, by omega⟩
      simp [Nat.mul_add, Nat.add_mul]; omega
    omega
/-- The row of times behind k rounds of the inner loop. -/
def trow (B N u v i k : Nat) : List Nat := dgn B (i + k) (tsum B u v i k) ++ (dgn B N (u % B ^ i * v)).drop (i + k)
theorem length_trow (B N u v i k : Nat) (h : i + k ≤ N) : (trow B N u v i k).length = N := by
  rw [trow, List.length_append, length_dgn, List.length_drop, length_dgn]; omega
theorem trow_zero (B N u v i : Nat) (h : i ≤ N) : trow B N u v i 0 = dgn B N (u % B ^ i * v) := by
  rw [trow, tsum_zero, Nat.add_zero, dg_mod]
  apply List.ext_getElem?
  intro j
  rw [List.getElem?_append, length_dgn]
  by_cases h1 : j < i
  · rw [if_pos h1, dg_get _ _ _ _ h1, dg_get _ _ _ _ (by omega)]
  · rw [if_neg h1, List.getElem?_drop, show i + (j - i) = j by omega]
theorem trow_get (B N u v i k j : Nat) (h : i + k ≤ j) (hj : j < N) : (trow B N u v i k)[j]? = some (u % B ^ i * v / B ^ j % B) := by
  rw [trow, List.getElem?_append_right (by rw [length_dgn]; exact h), length_dgn, List.getElem?_drop, show i + k + (j - (i + k)) = j by omega, dg_get _ _ _ _ hj]
theorem drop_cons {α : Type} (l : List α) (p : Nat) (x : α) (h : p < l.length) : (l.drop p).set 0 x = x :: l.drop (p + 1) := by
  rw [List.drop_eq_getElem_cons h]; rfl
theorem trow_set (B N u v i k : Nat) (h : i + k < N) : (trow B N u v i k).set (i + k) (tsum B u v i (k + 1) / B ^ (i + k) % B) = trow B N u v i (k + 1) := by
  have hl : (dgn B (i + k) (tsum B u v i k)).length = i + k := length_dgn _ _ _
  rw [trow, List.set_append_right _ _ (by omega), hl, Nat.sub_self, drop_cons _ _ _ (by rw [length_dgn]; exact h), trow, ← Nat.add_assoc, dg_succ, dg_congr B (i + k) _ _ (tsum_low B u v i k)]
  simp
theorem trow_last (B N u v i m : Nat) (hB : 0 < B) (hv : v < B ^ m) (h : i + m < N) : (trow B N u v i m).set (i + m) (u % B ^ i * v / B ^ (i + m) % B + tsum B u v i m / B ^ (i + m)) = dgn B N (u % B ^ (i + 1) * v) := by
  have hW : u % B ^ i * v < B ^ (i + m) := prod_lt_pow (Nat.mod_lt _ (Nat.pow_pos hB)) hv hB
  have hV : u % B ^ (i + 1) * v < B ^ (i + 1 + m) := prod_lt_pow (Nat.mod_lt _ (Nat.pow_pos hB)) hv hB
  have hc := tsum_c_lt B u v i m hB
  rw [tsum_end B u v i m hB hv] at hc ⊢
  have hl : (dgn B (i + m) (u % B ^ (i + 1) * v)).length = i + m := length_dgn _ _ _
  rw [trow, tsum_end B u v i m hB hv, List.set_append_right _ _ (by omega), hl, Nat.sub_self, drop_cons _ _ _ (by rw [length_dgn]; exact h), Nat.div_eq_of_lt hW, Nat.zero_mod, Nat.zero_add]
  apply List.ext_getElem?
  intro j
  rw [List.getElem?_append, hl]
  by_cases h1 : j < i + m
  · rw [if_pos h1, dg_get _ _ _ _ h1, dg_get _ _ _ _ (by omega)]
  · rw [if_neg h1]
    by_cases h2 : j = i + m
    · subst h2
      rw [Nat.sub_self, List.getElem?_cons_zero, dg_get _ _ _ _ h, Nat.mod_eq_of_lt hc]
    · obtain ⟨d, hd⟩ : ∃ d, j - (i + m) = d + 1 := ⟨j - (i + m) - 1, by omega⟩
      rw [hd, List.getElem?_cons_succ, List.getElem?_drop, show i + m + 1 + d = j by omega]
      by_cases h3 : j < N
      · rw [dg_get _ _ _ _ h3, dg_get _ _ _ _ h3, dig_zero hW hB (by omega), dig_zero hV hB (by omega)]
      · rw [List.getElem?_eq_none (by rw [length_dgn]; omega), List.getElem?_eq_none (by rw [length_dgn]; omega)]
/-- All the rounds: the sum of the places below n. -/
theorem dg_zero (B n : Nat) : dgn B n 0 = List.replicate n 0 := by
  apply List.ext_getElem?
  intro j
  by_cases h : j < n
  · rw [dg_get _ _ _ _ h]; simp [h]
  · rw [List.getElem?_eq_none (by rw [length_dgn]; omega), List.getElem?_eq_none (by simp; omega)]

/-- minus: what is lent at place i. -/
def lent (B u v i : Nat) : Nat := if u % B ^ i < v % B ^ i then 1 else 0
theorem lent_zero (B u v : Nat) : lent B u v 0 = 0 := by simp [lent, Nat.mod_one]
theorem lent_step (B u v i : Nat) (hB : 0 < B) : lent B u v (i + 1) = if u / B ^ i % B < v / B ^ i % B + lent B u v i then 1 else 0 := by
  unfold lent
  rw [mod_succ, mod_succ]
  have hX : 0 < B ^ i := Nat.pow_pos hB
  generalize B ^ i = X at hX
  have h1 := Nat.mod_lt u hX
  have h2 := Nat.mod_lt v hX
  generalize u % X = a at h1 ⊢
  generalize v % X = b at h2 ⊢
  generalize u / X % B = p
  generalize v / X % B = q
  by_cases hpq : p < q
  · have : X * p + X ≤ X * q := by rw [← Nat.mul_succ]; exact Nat.mul_le_mul_left _ hpq
    rw [if_pos (by omega), if_pos (by split <;> omega)]
  · by_cases he : p = q
    · subst he
      by_cases hab : a < b
      · rw [if_pos (by omega), if_pos hab, if_pos (by omega)]
      · rw [if_neg (by omega), if_neg hab, if_neg (by omega)]
    · have : X * q + X ≤ X * p := by rw [← Nat.mul_succ]; exact Nat.mul_le_mul_left _ (by omega)
      rw [if_neg (by omega), if_neg (by split <;> omega)]
theorem sub_digit (B u v i : Nat) (hB : 0 < B) (h : v ≤ u) : ((u - v) / B ^ i % B) + (v / B ^ i % B + lent B u v i) = u / B ^ i % B + B * lent B u v (i + 1) := by
  obtain ⟨d, rfl⟩ : ∃ d, u = v + d := ⟨u - v, by omega⟩
  rw [Nat.add_sub_cancel_left]
  have e1 : ∀ j, lent B (v + d) v j = cry B v d j := by
    intro j
    have hX : 0 < B ^ j := Nat.pow_pos hB
    unfold lent cry
    rw [Nat.add_mod]
    generalize B ^ j = X at hX
    have h1 := Nat.mod_lt d hX
    have h2 := Nat.mod_lt v hX
    generalize d % X = a at h1 ⊢
    generalize v % X = b at h2 ⊢
    by_cases hc : b + a < X
    · rw [Nat.mod_eq_of_lt hc, if_neg (by omega), Nat.div_eq_of_lt hc]
    · rw [Nat.mod_eq_sub_mod (by omega), Nat.mod_eq_of_lt (by omega), if_pos (by omega), Nat.div_eq_sub_div hX (by omega), Nat.div_eq_of_lt (by omega)]
  rw [e1, e1, add_digit _ _ _ _ hB, add_carry _ _ _ _ hB]
  have := Nat.div_add_mod (cry B v d i + v / B ^ i % B + d / B ^ i % B) B
  omega
/-- below: the first place from above that differs. -/
theorem lt_of_digit {B u v i : Nat} (hB : 0 < B) (h : u / B ^ (i + 1) = v / B ^ (i + 1)) (hd : u / B ^ i % B < v / B ^ i % B) : u < v := by
  have hX : 0 < B ^ i := Nat.pow_pos hB
  rw [Nat.pow_succ, ← Nat.div_div_eq_div_mul, ← Nat.div_div_eq_div_mul] at h
  have h1 := Nat.div_add_mod (u / B ^ i) B
  have h2 := Nat.div_add_mod (v / B ^ i) B
  rw [h] at h1
  refine Nat.lt_of_not_le fun hle => ?_
  have := Nat.div_le_div_right (c := B ^ i) hle
  omega
theorem div_of_digit {B u v i : Nat} (h : u / B ^ (i + 1) = v / B ^ (i + 1)) (hd : u / B ^ i % B = v / B ^ i % B) : u / B ^ i = v / B ^ i := by
  rw [Nat.pow_succ, ← Nat.div_div_eq_div_mul, ← Nat.div_div_eq_div_mul] at h
  rw [← Nat.div_add_mod (u / B ^ i) B, ← Nat.div_add_mod (v / B ^ i) B, h, hd]
end MS
