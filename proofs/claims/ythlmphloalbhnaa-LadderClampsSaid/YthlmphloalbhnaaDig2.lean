/-
  Numbers in digits to the base 65536, modulo 2^255 - 19: plain facts. No program stands in them.
-/
import Derived.Test.YthlmphloalbhnaaDig
import Derived.Test.YthlmphloalbhnaaFeP
namespace MS
def lo255 (u : Nat) : Nat := u % 2 ^ 255
def hi255 (u : Nat) : Nat := u / 2 ^ 255
theorem p255 : (2 : Nat) ^ 255 = 65536 ^ 15 * 32768 := by decide
theorem lo_dig (u i : Nat) (h : i < 15) : lo255 u / 65536 ^ i % 65536 = u / 65536 ^ i % 65536 := by
  rw [← dig_mod 65536 15 (lo255 u) i h, ← dig_mod 65536 15 u i h, lo255, p255, Nat.mod_mul_right_mod]
theorem lo_dig15 (u : Nat) : lo255 u / 65536 ^ 15 % 65536 = u / 65536 ^ 15 % 65536 % 32768 := by
  rw [lo255, p255, Nat.mod_mul_right_div_self]
  omega
theorem hi_dig (u j : Nat) : hi255 u / 65536 ^ j % 65536 = u / 65536 ^ (15 + j) % 65536 / 32768 + u / 65536 ^ (15 + j + 1) % 65536 % 32768 * 2 := by
  have e : hi255 u / 65536 ^ j = u / 65536 ^ (15 + j) / 32768 := by
    rw [hi255, p255, Nat.div_div_eq_div_mul, Nat.div_div_eq_div_mul, Nat.pow_add]
    congr 1
    rw [Nat.mul_assoc, Nat.mul_assoc, Nat.mul_comm 32768]
  rw [e, Nat.pow_succ, ← Nat.div_div_eq_div_mul]
  generalize u / 65536 ^ (15 + j) = X
  omega
theorem lo_lt (u : Nat) : lo255 u < 65536 ^ 16 := Nat.lt_trans (Nat.mod_lt _ (by decide)) (by decide)
theorem hi_lt {u n : Nat} (h : u < 65536 ^ n) (hn : 15 ≤ n) : hi255 u < 65536 ^ (n - 15) := by
  obtain ⟨m, rfl⟩ : ∃ m, n = 15 + m := ⟨n - 15, by omega⟩
  rw [hi255, Nat.div_lt_iff_lt_mul (by decide), p255, Nat.add_sub_cancel_left]
  refine Nat.lt_of_lt_of_le h ?_
  rw [Nat.pow_add, Nat.mul_comm, ← Nat.mul_assoc]
  exact Nat.le_mul_of_pos_right _ (by decide)
theorem fold_mod (u : Nat) : (lo255 u + 19 * hi255 u) % Q' = u % Q' := by
  have h := Nat.div_add_mod u (2 ^ 255)
  have e : u = lo255 u + 19 * hi255 u + Q' * hi255 u := by
    unfold lo255 hi255 Q'
    omega
  conv => rhs; rw [e, Nat.add_mul_mod_self_left]
theorem fold_lt {u : Nat} (h : hi255 u ≠ 0) : lo255 u + 19 * hi255 u < u := by
  have h1 := Nat.div_add_mod u (2 ^ 255)
  unfold lo255 hi255 at *
  omega
theorem fold_same {u : Nat} (h : hi255 u = 0) : lo255 u = u := by
  have h1 := Nat.div_add_mod u (2 ^ 255)
  unfold lo255 hi255 at *
  omega
theorem hi_zero {u : Nat} : hi255 u = 0 ↔ u < 2 ^ 255 := by
  unfold hi255
  omega
/-- Sixteen digits, the highest below 32768: less than 2^255. -/
theorem hi_top {u : Nat} (h : u < 65536 ^ 16) : (32767 < u / 65536 ^ 15 % 65536) ↔ hi255 u ≠ 0 := by
  rw [Ne, hi_zero]
  have h1 : u / 65536 ^ 15 < 65536 := by
    rw [Nat.div_lt_iff_lt_mul (by decide), Nat.mul_comm, ← Nat.pow_succ]; exact h
  rw [Nat.mod_eq_of_lt h1, p255]
  have h2 := Nat.div_lt_iff_lt_mul (x := u) (y := 32768) (k := 65536 ^ 15) (by decide)
  rw [Nat.mul_comm 32768] at h2
  omega
theorem red_end {u : Nat} (h : hi255 u = 0) : u % Q' = if u < Q' then u else u - Q' := by
  have := hi_zero.1 h
  unfold Q'
  split <;> omega
end MS
