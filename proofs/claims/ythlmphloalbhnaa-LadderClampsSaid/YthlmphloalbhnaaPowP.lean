/-
  Powers modulo 2^255 - 19: the document's and the program's ways to 2^255 - 21. No program stands in them.
-/
import Derived.Test.YthlmphloalbhnaaDig2
namespace MS
def E21 : Nat := 57896044618658097711785492504343953926634992332820282019728792003956564819947
theorem E21_bits : ∀ i : Fin 255, E21 / 2 ^ i.1 % 2 = if i.1 = 2 ∨ i.1 = 4 then 0 else 1 := by decide +kernel
theorem E21_top : E21 / 2 ^ 255 = 0 := by decide +kernel
theorem E21_step (i : Nat) (h : i < 255) : E21 / 2 ^ i = 2 * (E21 / 2 ^ (i + 1)) + if i = 2 ∨ i = 4 then 0 else 1 := by
  have h1 := E21_bits ⟨i, h⟩
  simp only at h1
  rw [← h1, Nat.pow_succ, ← Nat.div_div_eq_div_mul]
  omega
/-- What the document's loop holds when the bits above i are done. -/
def powA (a i : Nat) : Nat := a ^ (E21 / 2 ^ i) % Q'
theorem powA_top (a : Nat) : powA a 255 = 1 := by unfold powA; rw [E21_top, Nat.pow_zero]; decide
theorem powA_end (a : Nat) : powA a 0 = a ^ E21 % Q' := by unfold powA; rw [Nat.pow_zero, Nat.div_one]
theorem powA_sq (a i : Nat) (h : i < 255) (hi : i = 2 ∨ i = 4) : powA a (i + 1) * powA a (i + 1) % Q' = powA a i := by
  unfold powA
  rw [E21_step i h, if_pos hi, Nat.add_zero, ← Nat.mul_mod]
  generalize E21 / 2 ^ (i + 1) = n
  rw [Nat.two_mul, Nat.pow_add, Nat.pow_add, Nat.pow_zero, Nat.mul_one]
theorem powA_sqm (a i : Nat) (h : i < 255) (hi : ¬ (i = 2 ∨ i = 4)) : (powA a (i + 1) * powA a (i + 1) % Q') * (a % Q') % Q' = powA a i := by
  unfold powA
  rw [E21_step i h, if_neg hi]
  generalize E21 / 2 ^ (i + 1) = n
  rw [Nat.two_mul, Nat.pow_succ, Nat.pow_add, Nat.mul_mod (a ^ n * a ^ n), Nat.mul_mod (a ^ n) (a ^ n)]
theorem powA_lt (a i : Nat) : powA a i < Q' := Nat.mod_lt _ (by decide)
/-- A number that is a power of a. -/
def pw (a n : Nat) : Nat := a ^ n
def isP (a : Nat) (x : N5) (n : Nat) : Prop := x.v % Q' = pw a n % Q'
theorem isP_mul {a n m : Nat} {x y : N5} (hx : isP a x n) (hy : isP a y m) : isP a (mul x y) (n + m) := by
  unfold isP pw at *
  rw [mul_mod, Nat.mul_mod, hx, hy, ← Nat.mul_mod, ← Nat.pow_add]
def sqs (x : N5) : Nat → N5
  | 0 => x
  | n + 1 => mul (sqs x n) (sqs x n)
theorem isP_sqs {a m : Nat} {x : N5} (hx : isP a x m) (n : Nat) : isP a (sqs x n) (m * 2 ^ n) := by
  induction n with
  | zero => rw [Nat.pow_zero, Nat.mul_one]; exact hx
  | succ n ih =>
    rw [sqs, Nat.pow_succ, ← Nat.mul_assoc, Nat.mul_two]
    exact isP_mul ih ih
theorem sqs_nar {x : N5} (hx : x.nar) (n : Nat) : (sqs x n).nar := by
  induction n with
  | zero => exact hx
  | succ n ih => exact mul_nar (nar_ok ih) (nar_ok ih)
/-- The program's chain. -/
def invN (a : N5) : N5 :=
  let p2 := mul a a
  let p9 := mul (sqs p2 2) a
  let p11 := mul p9 p2
  let o5 := mul (sqs p11 1) p9
  let o10 := mul (sqs o5 5) o5
  let o20 := mul (sqs o10 10) o10
  let o40 := mul (sqs o20 20) o20
  let o50 := mul (sqs o40 10) o10
  let o100 := mul (sqs o50 50) o50
  let o200 := mul (sqs o100 100) o100
  let o250 := mul (sqs o200 50) o50
  mul (sqs o250 5) p11
theorem invN_mod (a : N5) : (invN a).v % Q' = a.v ^ E21 % Q' := by
  have h0 : isP a.v a 1 := by unfold isP pw; rw [Nat.pow_one]
  have p2 := isP_mul h0 h0
  have p9 := isP_mul (isP_sqs p2 2) h0
  have p11 := isP_mul p9 p2
  have o5 := isP_mul (isP_sqs p11 1) p9
  have o10 := isP_mul (isP_sqs o5 5) o5
  have o20 := isP_mul (isP_sqs o10 10) o10
  have o40 := isP_mul (isP_sqs o20 20) o20
  have o50 := isP_mul (isP_sqs o40 10) o10
  have o100 := isP_mul (isP_sqs o50 50) o50
  have o200 := isP_mul (isP_sqs o100 100) o100
  have o250 := isP_mul (isP_sqs o200 50) o50
  have e := isP_mul (isP_sqs o250 5) p11
  unfold isP at e
  generalize a.v = z at e ⊢
  have key : ∀ n N, n = N → pw z n % Q' = z ^ N % Q' := fun n N h => by rw [h]; rfl
  obtain ⟨N, hN⟩ : ∃ N, E21 = N := ⟨_, rfl⟩
  rw [hN]
  exact e.trans (key _ N (by rw [← hN]; decide +kernel))
theorem invN_nar {a : N5} (h : a.ok) : (invN a).nar := by
  have p2 := mul_nar h h
  have p9 := mul_nar (nar_ok (sqs_nar p2 2)) h
  have p11 := mul_nar (nar_ok p9) (nar_ok p2)
  have o5 := mul_nar (nar_ok (sqs_nar p11 1)) (nar_ok p9)
  have o10 := mul_nar (nar_ok (sqs_nar o5 5)) (nar_ok o5)
  have o20 := mul_nar (nar_ok (sqs_nar o10 10)) (nar_ok o10)
  have o40 := mul_nar (nar_ok (sqs_nar o20 20)) (nar_ok o20)
  have o50 := mul_nar (nar_ok (sqs_nar o40 10)) (nar_ok o10)
  have o100 := mul_nar (nar_ok (sqs_nar o50 50)) (nar_ok o50)
  have o200 := mul_nar (nar_ok (sqs_nar o100 100)) (nar_ok o100)
  have o250 := mul_nar (nar_ok (sqs_nar o200 50)) (nar_ok o50)
  exact mul_nar (nar_ok (sqs_nar o250 5)) (nar_ok p11)
end MS
