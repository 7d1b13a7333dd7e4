/-
  Products of five limbs as the program's loops make them. No program stands in them.
-/
import Derived.Test.YthlmphloalbhnaaRw
import Derived.Test.YthlmphloalbhnaaFeP
namespace MS
/-- The product that the round (i, j) adds. -/
def tm (X Y : Nat → Nat) (i j : Nat) : Nat := X i * (if i + j ≥ 5 then Y j * 19 else Y j)
def ix (i j : Nat) : Nat := if i + j ≥ 5 then i + j - 5 else i + j
def inn (X Y f : Nat → Nat) (i : Nat) : Nat → Nat → Nat
  | 0 => f
  | j + 1 => upd (inn X Y f i j) (ix i j) (inn X Y f i j (ix i j) + tm X Y i j)
def outr (X Y : Nat → Nat) : Nat → Nat → Nat
  | 0 => fun _ => 0
  | i + 1 => inn X Y (outr X Y i) i 5
def TB : Nat := 96342447615577040000000000000000
theorem ix_lt {i j : Nat} (hi : i < 5) (hj : j < 5) : ix i j < 5 := by unfold ix; split <;> omega
theorem tm_le {X Y : Nat → Nat} (hX : ∀ i, X i < 2251799813947392) (hY : ∀ i, Y i < 2251799813947392) (i j : Nat) : tm X Y i j ≤ TB := by
  unfold tm TB
  split
  · exact prod_lt19 (hX i) (hY j)
  · exact prod_lt1 (hX i) (hY j)
theorem inn_le {X Y f : Nat → Nat} {i C : Nat} (hX : ∀ i, X i < 2251799813947392) (hY : ∀ i, Y i < 2251799813947392) (hf : ∀ k, f k ≤ C) (j k : Nat) : inn X Y f i j k ≤ C + j * TB := by
  induction j generalizing k with
  | zero => rw [Nat.zero_mul]; exact hf k
  | succ j ih =>
    have h1 := ih k
    have h2 := ih (ix i j)
    have h3 := tm_le hX hY i j
    rw [inn, upd, Nat.succ_mul]
    split <;> omega
theorem outr_le {X Y : Nat → Nat} (hX : ∀ i, X i < 2251799813947392) (hY : ∀ i, Y i < 2251799813947392) (i k : Nat) : outr X Y i k ≤ 5 * i * TB := by
  induction i generalizing k with
  | zero => exact Nat.zero_le _
  | succ i ih =>
    have := inn_le (i := i) hX hY ih 5 k
    rw [outr, show 5 * (i + 1) = 5 * i + 5 by omega, Nat.add_mul]
    exact this
theorem inn_lt {X Y : Nat → Nat} (hX : ∀ i, X i < 2251799813947392) (hY : ∀ i, Y i < 2251799813947392) {i : Nat} (hi : i < 5) {j : Nat} (hj : j ≤ 5) (k : Nat) : inn X Y (outr X Y i) i j k ≤ 2408561190389426000000000000000000 := by
  have h1 := inn_le (i := i) hX hY (outr_le hX hY i) j k
  have h2 : 5 * i * TB + j * TB ≤ 25 * TB := by
    rw [← Nat.add_mul]; exact Nat.mul_le_mul_right _ (by omega)
  unfold TB at *
  omega
/-- A sum in two words. -/
theorem two_low (f p : Nat) : (f + p) % 18446744073709551616 = (f % 18446744073709551616 + p % 18446744073709551616) % 18446744073709551616 := Nat.add_mod _ _ _
theorem two_high (f p : Nat) : (f + p) / 18446744073709551616 = f / 18446744073709551616 + (p / 18446744073709551616 + (f % 18446744073709551616 + p % 18446744073709551616) / 18446744073709551616) := by omega
def lowF (f : Nat → Nat) : Nat → Nat := fun k => f k % 18446744073709551616
def highF (f : Nat → Nat) : Nat → Nat := fun k => f k / 18446744073709551616
theorem lowF_upd (f : Nat → Nat) (k v : Nat) : upd (lowF f) k (v % 18446744073709551616) = lowF (upd f k v) := by
  funext i
  simp only [upd, lowF]
  by_cases e : i = k <;> simp [e]
theorem highF_upd (f : Nat → Nat) (k v : Nat) : upd (highF f) k (v / 18446744073709551616) = highF (upd f k v) := by
  funext i
  simp only [upd, highF]
  by_cases e : i = k <;> simp [e]
/-- The third loop: the columns carried on. -/
def prd (F : Nat → Nat) : Nat → Nat → Nat
  | 0 => fun _ => 0
  | k + 1 => if k + 1 < 5 then upd (upd (prd F k) k (prd F k k + F k % 2251799813685248)) (k + 1) (upd (prd F k) k (prd F k k + F k % 2251799813685248) (k + 1) + F k / 2251799813685248)
    else upd (upd (prd F k) k (prd F k k + F k % 2251799813685248)) 0 (upd (prd F k) k (prd F k k + F k % 2251799813685248) 0 + 19 * (F k / 2251799813685248))
theorem prd_le {F : Nat → Nat} (hF : ∀ k, F k < 649037107316853453566312041152512) (k : Nat) (hk : k ≤ 4) (i : Nat) : prd F k i ≤ k * 290482175965396992 := by
  induction k generalizing i with
  | zero => exact Nat.zero_le _
  | succ k ih =>
    have h1 := ih (by omega) i
    have h2 := ih (by omega) k
    have h3 := ih (by omega) (k + 1)
    have h4 := hF k
    rw [prd, if_pos (by omega)]
    unfold upd
    rw [Nat.succ_mul]
    have h5 : F k / 2251799813685248 < 288230376151711744 := Nat.div_lt_of_lt_mul h4
    have h6 : F k % 2251799813685248 < 2251799813685248 := Nat.mod_lt _ (by decide)
    have h7 : F k / 2251799813685248 + F k % 2251799813685248 ≤ 290482175965396992 := Nat.le_trans (Nat.add_le_add (Nat.le_of_lt h5) (Nat.le_of_lt h6)) (by decide)
    clear h4 h5 h6 hF ih
    generalize F k / 2251799813685248 = p at *
    generalize F k % 2251799813685248 = q at *
    generalize 290482175965396992 = B at *
    generalize k * B = z at *
    repeat' split
    all_goals omega
/-- The columns of the two loops are those of the product. -/
theorem outr_end (x y : N5) (X Y : Nat → Nat) (hX : X 0 = x.a ∧ X 1 = x.b ∧ X 2 = x.c ∧ X 3 = x.d ∧ X 4 = x.e) (hY : Y 0 = y.a ∧ Y 1 = y.b ∧ Y 2 = y.c ∧ Y 3 = y.d ∧ Y 4 = y.e) :
    outr X Y 5 0 = col0 x y ∧ outr X Y 5 1 = col1 x y ∧ outr X Y 5 2 = col2 x y ∧ outr X Y 5 3 = col3 x y ∧ outr X Y 5 4 = col4 x y := by
  obtain ⟨x0, x1, x2, x3, x4⟩ := hX
  obtain ⟨y0, y1, y2, y3, y4⟩ := hY
  refine ⟨?_, ?_, ?_, ?_, ?_⟩ <;> simp [outr, inn, upd, ix, tm, x0, x1, x2, x3, x4, y0, y1, y2, y3, y4, col0, col1, col2, col3, col4]
theorem prd_end (F : Nat → Nat) : prd F 5 0 = F 0 % 2251799813685248 + 19 * (F 4 / 2251799813685248) ∧ prd F 5 1 = F 1 % 2251799813685248 + F 0 / 2251799813685248 ∧ prd F 5 2 = F 2 % 2251799813685248 + F 1 / 2251799813685248 ∧
    prd F 5 3 = F 3 % 2251799813685248 + F 2 / 2251799813685248 ∧ prd F 5 4 = F 4 % 2251799813685248 + F 3 / 2251799813685248 := by
  refine ⟨?_, ?_, ?_, ?_, ?_⟩ <;> simp [prd, upd] <;> omega
end MS
