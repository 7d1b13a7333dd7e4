/-
  Edwards curves over the prime field, and the ladder: two ladders by even numbers commute.
-/
import Derived.Test.YthlmphloalbhnaaEcNt
namespace MSE
abbrev Q : Nat := 57896044618658097711785492504343953926634992332820282019728792003956564819949
abbrev F := Fin Q
theorem eq2 {l r c1 c2 : F} (k : l - r = c1 * 0 + c2 * 0) : l = r := by grind -lia
theorem eq3 {l r c1 c2 c3 : F} (k : l - r = c1 * 0 + c2 * 0 + c3 * 0) : l = r := by grind -lia

/-! ### The field of 2^255 - 19, as Fin Q. -/
theorem q_prime : IsPrime Q := prime25519
theorem mul_zero_or {a b : F} (h : a * b = 0) : a = 0 ∨ b = 0 := by
  have hv : (a.val * b.val) % Q = 0 := by have := congrArg Fin.val h; rwa [Fin.val_mul] at this
  have key : ∀ {c : F}, Q ∣ c.val → c = 0 := by
    intro c hc
    apply Fin.ext
    have : c.val = 0 := Nat.eq_zero_of_dvd_of_lt hc c.isLt
    rw [this]; rfl
  rcases prime_dvd_mul q_prime (Nat.dvd_of_mod_eq_zero hv) with h1 | h1
  · exact Or.inl (key h1)
  · exact Or.inr (key h1)
theorem mul_ne {a b : F} (ha : a ≠ 0) (hb : b ≠ 0) : a * b ≠ 0 := fun h => (mul_zero_or h).elim ha hb
theorem cancelF {a x y : F} (ha : a ≠ 0) (h : x * a = y * a) : x = y := by
  have : (x - y) * a = 0 := by grind -lia
  rcases mul_zero_or this with h1 | h1
  · grind -lia
  · exact absurd h1 ha
theorem sq_zero {a : F} (h : a * a = 0) : a = 0 := (mul_zero_or h).elim id id

def fp (a : F) : Nat → F
  | 0 => 1
  | n + 1 => fp a n * a
theorem fp_zero (a : F) : fp a 0 = 1 := rfl
theorem fp_succ (a : F) (n : Nat) : fp a (n + 1) = fp a n * a := rfl
theorem fp_val (a : F) : ∀ n, (fp a n).val = a.val ^ n % Q
  | 0 => rfl
  | n + 1 => by rw [fp_succ, Fin.val_mul, fp_val a n, Nat.pow_succ, Nat.mod_mul_mod]
theorem fp_add (a : F) (m : Nat) : ∀ n, fp a (m + n) = fp a m * fp a n
  | 0 => by rw [fp_zero, Nat.add_zero]; grind -lia
  | n + 1 => by rw [← Nat.add_assoc, fp_succ, fp_succ, fp_add a m n]; grind -lia
theorem fp_mul (a : F) (m : Nat) : ∀ n, fp a (m * n) = fp (fp a m) n
  | 0 => by simp [fp_zero]
  | n + 1 => by rw [Nat.mul_succ, fp_add, fp_mul a m n, fp_succ]
theorem fp_mulBase (a b : F) : ∀ n, fp (a * b) n = fp a n * fp b n
  | 0 => by simp [fp_zero]
  | n + 1 => by rw [fp_succ, fp_succ, fp_succ, fp_mulBase a b n]; grind -lia
theorem fp_one (n : Nat) : fp 1 n = 1 := by
  induction n with
  | zero => rfl
  | succ n ih => rw [fp_succ, ih]; grind -lia
theorem fp_two (a : F) : fp a 2 = a * a := by rw [fp_succ, fp_succ, fp_zero]; grind -lia
theorem fp_zeroBase (n : Nat) (h : 0 < n) : fp 0 n = 0 := by
  cases n with
  | zero => omega
  | succ n => rw [fp_succ]; grind -lia
theorem fp_fermat {a : F} (ha : a ≠ 0) : fp a (Q - 1) = 1 := by
  apply Fin.ext
  rw [fp_val]
  refine fermat q_prime ?_
  intro hd
  refine ha (Fin.ext ?_)
  rw [Nat.eq_zero_of_dvd_of_lt hd a.isLt]; rfl
attribute [irreducible] fp

/-- The inverse; of 0 it is 0. -/
def inv (a : F) : F := fp a (Q - 2)
theorem mul_inv {a : F} (ha : a ≠ 0) : a * inv a = 1 := by
  have h := fp_fermat ha
  have e : Q - 1 = (Q - 2) + 1 := by decide
  rw [e, fp_succ] at h
  unfold inv
  generalize fp a (Q - 2) = b at *
  grind -lia
theorem inv_zero : inv 0 = 0 := fp_zeroBase _ (by decide)
attribute [irreducible] inv
theorem inv_eq {a b : F} (h : a * b = 1) : inv a = b := by
  have ha : a ≠ 0 := by
    intro e; rw [e] at h
    have : (0 : F) = 1 := by grind -lia
    exact absurd this (by decide)
  have h2 := mul_inv ha
  generalize inv a = c at *
  refine cancelF ha ?_
  grind -lia
theorem frac_eq {u v u' v' : F} (hv : v ≠ 0) (hv' : v' ≠ 0) (h : u * v' = u' * v) : u * inv v = u' * inv v' := by
  have h1 := mul_inv hv
  have h2 := mul_inv hv'
  refine cancelF (mul_ne hv hv') ?_
  generalize inv v = i at *
  generalize inv v' = i' at *
  have e1 : u * i * (v * v') = u * v' * (v * i) := by grind -lia
  have e2 : u' * i' * (v * v') = u' * v * (v' * i') := by grind -lia
  rw [e1, e2, h1, h2, h]
theorem frac_ne {u v : F} (hu : u ≠ 0) (hv : v ≠ 0) : u * inv v ≠ 0 := by
  intro h
  have h1 := mul_inv hv
  refine hu ?_
  generalize inv v = i at *
  have : u * i * v = u := by grind -lia
  rw [h] at this; grind -lia

/-! ### Squares: 2^255 - 19 is 5 modulo 8. -/
def Sq (a : F) : Prop := ∃ s : F, s * s = a
theorem half_sq {a : F} (ha : a ≠ 0) : fp a ((Q - 1) / 2) = 1 ∨ fp a ((Q - 1) / 2) = -1 := by
  have h : fp a ((Q - 1) / 2) * fp a ((Q - 1) / 2) = 1 := by
    rw [← fp_add]; exact fp_fermat ha
  generalize fp a ((Q - 1) / 2) = b at *
  have : (b - 1) * (b + 1) = 0 := by grind -lia
  rcases mul_zero_or this with h1 | h1
  · left; grind -lia
  · right; grind -lia
theorem fp_by (a : F) (n k : Nat) (h : n < 2 ^ k) (r : F) (hr : modpow a.val n Q k = r.val) : fp a n = r := by
  apply Fin.ext; rw [fp_val, ← modpow_eq a.val Q k n h, hr]
theorem root_m1 : fp 2 ((Q - 1) / 4) * fp 2 ((Q - 1) / 4) = -1 := by
  rw [← fp_add]
  exact fp_by 2 _ 256 (by decide +kernel) (-1) (by decide +kernel)
theorem sq_of_half {a : F} (h : fp a ((Q - 1) / 2) = 1) : Sq a := by
  have h4 : fp a ((Q + 3) / 8) * fp a ((Q + 3) / 8) * (fp a ((Q + 3) / 8) * fp a ((Q + 3) / 8)) = a * a := by
    rw [← fp_add, ← fp_add]
    have e : (Q + 3) / 8 + (Q + 3) / 8 + ((Q + 3) / 8 + (Q + 3) / 8) = (Q - 1) / 2 + 2 := by decide
    rw [e, fp_add, h, fp_two]; grind -lia
  have hr := root_m1
  generalize fp a ((Q + 3) / 8) = y at *
  generalize fp 2 ((Q - 1) / 4) = i at *
  have : (y * y - a) * (y * y + a) = 0 := by
    rw [show (y * y - a) * (y * y + a) = y * y * (y * y) - a * a by grind -lia, h4]; grind -lia
  rcases mul_zero_or this with h1 | h1
  · exact ⟨y, by grind -lia⟩
  · exact ⟨i * y, by grind -lia⟩
theorem half_of_sq {a s : F} (hs : s * s = a) (ha : a ≠ 0) : fp a ((Q - 1) / 2) = 1 := by
  have hs0 : s ≠ 0 := by intro e; rw [e] at hs; exact ha (by rw [← hs]; grind -lia)
  rw [← hs, ← fp_two, ← fp_mul]
  exact fp_fermat hs0
theorem nonsq_mul {a b : F} (ha : ¬ Sq a) (hb : ¬ Sq b) : Sq (a * b) := by
  have ha0 : a ≠ 0 := fun e => ha ⟨0, by rw [e]; grind -lia⟩
  have hb0 : b ≠ 0 := fun e => hb ⟨0, by rw [e]; grind -lia⟩
  refine sq_of_half ?_
  rw [fp_mulBase]
  rcases half_sq ha0 with h1 | h1
  · exact absurd (sq_of_half h1) ha
  · rcases half_sq hb0 with h2 | h2
    · exact absurd (sq_of_half h2) hb
    · rw [h1, h2]; grind -lia
theorem nonsq_of {a : F} (ha : a ≠ 0) (h : fp a ((Q - 1) / 2) = -1) : ¬ Sq a := by
  rintro ⟨s, hs⟩
  rw [half_of_sq hs ha] at h
  exact absurd h (by decide)
theorem closure_id (d x1 y1 x2 y2 : F) : ((x1*y2 + y1*x2)*(1 - d*(x1*x2*y1*y2)))*((x1*y2 + y1*x2)*(1 - d*(x1*x2*y1*y2))) + ((y1*y2 - x1*x2)*(1 + d*(x1*x2*y1*y2)))*((y1*y2 - x1*x2)*(1 + d*(x1*x2*y1*y2))) - (((1 + d*(x1*x2*y1*y2))*(1 - d*(x1*x2*y1*y2)))*((1 + d*(x1*x2*y1*y2))*(1 - d*(x1*x2*y1*y2))) + d*((x1*y2 + y1*x2)*(y1*y2 - x1*x2))*((x1*y2 + y1*x2)*(y1*y2 - x1*x2))) = (d*d*d*x1*x1*y1*y1*x2*x2*x2*x2*y2*y2*y2*y2 + d*d*x1*x1*x2*x2*x2*x2*y2*y2*y2*y2 + d*d*y1*y1*x2*x2*x2*x2*y2*y2*y2*y2 - d*d*x2*x2*x2*x2*y2*y2*y2*y2 - d*x1*x1*x2*x2*x2*x2*y2*y2 - d*x1*x1*x2*x2*y2*y2*y2*y2 - d*y1*y1*x2*x2*x2*x2*y2*y2 - d*y1*y1*x2*x2*y2*y2*y2*y2 + 2*d*x2*x2*x2*x2*y2*y2*y2*y2 - 2*d*x2*x2*y2*y2 - 2*x2*x2*x2*x2*y2*y2 + x2*x2*x2*x2 - 2*x2*x2*y2*y2*y2*y2 + 4*x2*x2*y2*y2 + y2*y2*y2*y2) * (x1*x1 + y1*y1 - 1 - d*x1*x1*y1*y1) + (d*x1*x1*x1*x1*x2*x2*y2*y2 - 2*d*x1*x1*x2*x2*y2*y2 + d*y1*y1*y1*y1*x2*x2*y2*y2 - 2*d*y1*y1*x2*x2*y2*y2 + d*x2*x2*y2*y2 + 2*x1*x1*x2*x2*y2*y2 - x1*x1*x2*x2 - x1*x1*y2*y2 + 2*y1*y1*x2*x2*y2*y2 - y1*y1*x2*x2 - y1*y1*y2*y2 - 2*x2*x2*y2*y2 + x2*x2 + y2*y2 + 1) * (x2*x2 + y2*y2 - 1 - d*x2*x2*y2*y2) := by grind -lia
theorem closure (d x1 y1 x2 y2 : F) (h1 : x1*x1 + y1*y1 = 1 + d*x1*x1*y1*y1) (h2 : x2*x2 + y2*y2 = 1 + d*x2*x2*y2*y2) :
    ((x1*y2 + y1*x2)*(1 - d*(x1*x2*y1*y2)))*((x1*y2 + y1*x2)*(1 - d*(x1*x2*y1*y2))) + ((y1*y2 - x1*x2)*(1 + d*(x1*x2*y1*y2)))*((y1*y2 - x1*x2)*(1 + d*(x1*x2*y1*y2))) = ((1 + d*(x1*x2*y1*y2))*(1 - d*(x1*x2*y1*y2)))*((1 + d*(x1*x2*y1*y2))*(1 - d*(x1*x2*y1*y2))) + d*((x1*y2 + y1*x2)*(y1*y2 - x1*x2))*((x1*y2 + y1*x2)*(y1*y2 - x1*x2)) := by
  have g1 : x1*x1 + y1*y1 - 1 - d*x1*x1*y1*y1 = 0 := by rw [h1]; grind -lia
  have g2 : x2*x2 + y2*y2 - 1 - d*x2*x2*y2*y2 = 0 := by rw [h2]; grind -lia
  have k := closure_id d x1 y1 x2 y2
  rw [g1, g2] at k
  exact eq2 k
theorem assocx_id (d x1 y1 x2 y2 x3 y3 : F) : ((x1*y2 + y1*x2)*(1 - d*(x1*x2*y1*y2))*y3 + (y1*y2 - x1*x2)*(1 + d*(x1*x2*y1*y2))*x3)*((1 + d*(x2*x3*y2*y3))*(1 - d*(x2*x3*y2*y3)) + d*x1*y1*(x2*y3 + y2*x3)*(y2*y3 - x2*x3)) - ((x1*(y2*y3 - x2*x3)*(1 + d*(x2*x3*y2*y3)) + y1*(x2*y3 + y2*x3)*(1 - d*(x2*x3*y2*y3)))*((1 + d*(x1*x2*y1*y2))*(1 - d*(x1*x2*y1*y2)) + d*(x1*y2 + y1*x2)*(y1*y2 - x1*x2)*x3*y3)) = (d*d*x1*x2*x2*x2*x2*y2*y2*y2*x3*x3*y3 - d*d*x1*x2*x2*x2*y2*y2*y2*y2*x3*y3*y3 + d*d*y1*x2*x2*x2*x2*y2*y2*y2*x3*y3*y3 + d*d*y1*x2*x2*x2*y2*y2*y2*y2*x3*x3*y3 - d*x1*x2*x2*x2*x2*y2*x3*x3*y3 - d*x1*x2*x2*x2*y2*y2*x3*x3*x3 + d*x1*x2*x2*x2*y2*y2*x3 + d*x1*x2*x2*y2*y2*y2*y3*y3*y3 - d*x1*x2*x2*y2*y2*y2*y3 + d*x1*x2*y2*y2*y2*y2*x3*y3*y3 - d*y1*x2*x2*x2*x2*y2*x3*y3*y3 + d*y1*x2*x2*x2*y2*y2*y3*y3*y3 - d*y1*x2*x2*x2*y2*y2*y3 + d*y1*x2*x2*y2*y2*y2*x3*x3*x3 - d*y1*x2*x2*y2*y2*y2*x3 - d*y1*x2*y2*y2*y2*y2*x3*x3*y3) * (x1*x1 + y1*y1 - 1 - d*x1*x1*y1*y1) + (d*x1*x1*x1*x2*x2*y2*x3*x3*y3 - d*x1*x1*x1*x2*y2*y2*x3*y3*y3 - d*x1*x1*y1*x2*x2*y2*x3*x3*x3 + d*x1*x1*y1*x2*x2*y2*x3 - d*x1*x1*y1*x2*y2*y2*y3*y3*y3 + d*x1*x1*y1*x2*y2*y2*y3 - d*x1*y1*y1*x2*x2*y2*y3*y3*y3 + d*x1*y1*y1*x2*x2*y2*y3 + d*x1*y1*y1*x2*y2*y2*x3*x3*x3 - d*x1*y1*y1*x2*y2*y2*x3 - d*x1*x2*x2*y2*x3*x3*y3 + d*x1*x2*y2*y2*x3*y3*y3 + d*y1*y1*y1*x2*x2*y2*x3*y3*y3 + d*y1*y1*y1*x2*y2*y2*x3*x3*y3 - d*y1*x2*x2*y2*x3*y3*y3 - d*y1*x2*y2*y2*x3*x3*y3) * (x2*x2 + y2*y2 - 1 - d*x2*x2*y2*y2) + (- d*d*x1*x1*y1*x2*x2*x2*x2*y2*y2*y2*x3 - d*d*x1*x1*y1*x2*x2*x2*y2*y2*y2*y2*y3 - d*d*x1*y1*y1*x2*x2*x2*x2*y2*y2*y2*y3 + d*d*x1*y1*y1*x2*x2*x2*y2*y2*y2*y2*x3 + d*x1*x1*x1*x2*x2*x2*y2*y2*x3 - d*x1*x1*x1*x2*x2*y2*y2*y2*y3 + d*x1*x1*y1*x2*x2*x2*x2*y2*x3 + d*x1*x1*y1*x2*y2*y2*y2*y2*y3 + d*x1*y1*y1*x2*x2*x2*x2*y2*y3 - d*x1*y1*y1*x2*y2*y2*y2*y2*x3 - d*x1*x2*x2*x2*y2*y2*x3 + d*x1*x2*x2*y2*y2*y2*y3 - d*y1*y1*y1*x2*x2*x2*y2*y2*y3 - d*y1*y1*y1*x2*x2*y2*y2*y2*x3 + d*y1*x2*x2*x2*y2*y2*y3 + d*y1*x2*x2*y2*y2*y2*x3) * (x3*x3 + y3*y3 - 1 - d*x3*x3*y3*y3) := by grind -lia
theorem assocx (d x1 y1 x2 y2 x3 y3 : F) (h1 : x1*x1 + y1*y1 = 1 + d*x1*x1*y1*y1) (h2 : x2*x2 + y2*y2 = 1 + d*x2*x2*y2*y2) (h3 : x3*x3 + y3*y3 = 1 + d*x3*x3*y3*y3) :
    ((x1*y2 + y1*x2)*(1 - d*(x1*x2*y1*y2))*y3 + (y1*y2 - x1*x2)*(1 + d*(x1*x2*y1*y2))*x3)*((1 + d*(x2*x3*y2*y3))*(1 - d*(x2*x3*y2*y3)) + d*x1*y1*(x2*y3 + y2*x3)*(y2*y3 - x2*x3)) = (x1*(y2*y3 - x2*x3)*(1 + d*(x2*x3*y2*y3)) + y1*(x2*y3 + y2*x3)*(1 - d*(x2*x3*y2*y3)))*((1 + d*(x1*x2*y1*y2))*(1 - d*(x1*x2*y1*y2)) + d*(x1*y2 + y1*x2)*(y1*y2 - x1*x2)*x3*y3) := by
  have g1 : x1*x1 + y1*y1 - 1 - d*x1*x1*y1*y1 = 0 := by rw [h1]; grind -lia
  have g2 : x2*x2 + y2*y2 - 1 - d*x2*x2*y2*y2 = 0 := by rw [h2]; grind -lia
  have g3 : x3*x3 + y3*y3 - 1 - d*x3*x3*y3*y3 = 0 := by rw [h3]; grind -lia
  have k := assocx_id d x1 y1 x2 y2 x3 y3
  rw [g1, g2, g3] at k
  exact eq3 k
theorem assocy_id (d x1 y1 x2 y2 x3 y3 : F) : ((y1*y2 - x1*x2)*(1 + d*(x1*x2*y1*y2))*y3 - (x1*y2 + y1*x2)*(1 - d*(x1*x2*y1*y2))*x3)*((1 + d*(x2*x3*y2*y3))*(1 - d*(x2*x3*y2*y3)) - d*x1*y1*(x2*y3 + y2*x3)*(y2*y3 - x2*x3)) - ((y1*(y2*y3 - x2*x3)*(1 + d*(x2*x3*y2*y3)) - x1*(x2*y3 + y2*x3)*(1 - d*(x2*x3*y2*y3)))*((1 + d*(x1*x2*y1*y2))*(1 - d*(x1*x2*y1*y2)) - d*(x1*y2 + y1*x2)*(y1*y2 - x1*x2)*x3*y3)) = (- d*d*x1*x2*x2*x2*x2*y2*y2*y2*x3*y3*y3 - d*d*x1*x2*x2*x2*y2*y2*y2*y2*x3*x3*y3 + d*d*y1*x2*x2*x2*x2*y2*y2*y2*x3*x3*y3 - d*d*y1*x2*x2*x2*y2*y2*y2*y2*x3*y3*y3 + d*x1*x2*x2*x2*x2*y2*x3*y3*y3 - d*x1*x2*x2*x2*y2*y2*y3*y3*y3 + d*x1*x2*x2*x2*y2*y2*y3 - d*x1*x2*x2*y2*y2*y2*x3*x3*x3 + d*x1*x2*x2*y2*y2*y2*x3 + d*x1*x2*y2*y2*y2*y2*x3*x3*y3 - d*y1*x2*x2*x2*x2*y2*x3*x3*y3 - d*y1*x2*x2*x2*y2*y2*x3*x3*x3 + d*y1*x2*x2*x2*y2*y2*x3 + d*y1*x2*x2*y2*y2*y2*y3*y3*y3 - d*y1*x2*x2*y2*y2*y2*y3 + d*y1*x2*y2*y2*y2*y2*x3*y3*y3) * (x1*x1 + y1*y1 - 1 - d*x1*x1*y1*y1) + (- d*x1*x1*x1*x2*x2*y2*x3*y3*y3 - d*x1*x1*x1*x2*y2*y2*x3*x3*y3 - d*x1*x1*y1*x2*x2*y2*y3*y3*y3 + d*x1*x1*y1*x2*x2*y2*y3 + d*x1*x1*y1*x2*y2*y2*x3*x3*x3 - d*x1*x1*y1*x2*y2*y2*x3 + d*x1*y1*y1*x2*x2*y2*x3*x3*x3 - d*x1*y1*y1*x2*x2*y2*x3 + d*x1*y1*y1*x2*y2*y2*y3*y3*y3 - d*x1*y1*y1*x2*y2*y2*y3 + d*x1*x2*x2*y2*x3*y3*y3 + d*x1*x2*y2*y2*x3*x3*y3 + d*y1*y1*y1*x2*x2*y2*x3*x3*y3 - d*y1*y1*y1*x2*y2*y2*x3*y3*y3 - d*y1*x2*x2*y2*x3*x3*y3 + d*y1*x2*y2*y2*x3*y3*y3) * (x2*x2 + y2*y2 - 1 - d*x2*x2*y2*y2) + (- d*d*x1*x1*y1*x2*x2*x2*x2*y2*y2*y2*y3 + d*d*x1*x1*y1*x2*x2*x2*y2*y2*y2*y2*x3 + d*d*x1*y1*y1*x2*x2*x2*x2*y2*y2*y2*x3 + d*d*x1*y1*y1*x2*x2*x2*y2*y2*y2*y2*y3 + d*x1*x1*x1*x2*x2*x2*y2*y2*y3 + d*x1*x1*x1*x2*x2*y2*y2*y2*x3 + d*x1*x1*y1*x2*x2*x2*x2*y2*y3 - d*x1*x1*y1*x2*y2*y2*y2*y2*x3 - d*x1*y1*y1*x2*x2*x2*x2*y2*x3 - d*x1*y1*y1*x2*y2*y2*y2*y2*y3 - d*x1*x2*x2*x2*y2*y2*y3 - d*x1*x2*x2*y2*y2*y2*x3 + d*y1*y1*y1*x2*x2*x2*y2*y2*x3 - d*y1*y1*y1*x2*x2*y2*y2*y2*y3 - d*y1*x2*x2*x2*y2*y2*x3 + d*y1*x2*x2*y2*y2*y2*y3) * (x3*x3 + y3*y3 - 1 - d*x3*x3*y3*y3) := by grind -lia
theorem assocy (d x1 y1 x2 y2 x3 y3 : F) (h1 : x1*x1 + y1*y1 = 1 + d*x1*x1*y1*y1) (h2 : x2*x2 + y2*y2 = 1 + d*x2*x2*y2*y2) (h3 : x3*x3 + y3*y3 = 1 + d*x3*x3*y3*y3) :
    ((y1*y2 - x1*x2)*(1 + d*(x1*x2*y1*y2))*y3 - (x1*y2 + y1*x2)*(1 - d*(x1*x2*y1*y2))*x3)*((1 + d*(x2*x3*y2*y3))*(1 - d*(x2*x3*y2*y3)) - d*x1*y1*(x2*y3 + y2*x3)*(y2*y3 - x2*x3)) = (y1*(y2*y3 - x2*x3)*(1 + d*(x2*x3*y2*y3)) - x1*(x2*y3 + y2*x3)*(1 - d*(x2*x3*y2*y3)))*((1 + d*(x1*x2*y1*y2))*(1 - d*(x1*x2*y1*y2)) - d*(x1*y2 + y1*x2)*(y1*y2 - x1*x2)*x3*y3) := by
  have g1 : x1*x1 + y1*y1 - 1 - d*x1*x1*y1*y1 = 0 := by rw [h1]; grind -lia
  have g2 : x2*x2 + y2*y2 - 1 - d*x2*x2*y2*y2 = 0 := by rw [h2]; grind -lia
  have g3 : x3*x3 + y3*y3 - 1 - d*x3*x3*y3*y3 = 0 := by rw [h3]; grind -lia
  have k := assocy_id d x1 y1 x2 y2 x3 y3
  rw [g1, g2, g3] at k
  exact eq3 k
theorem daddid_id (d x1 y1 x2 y2 : F) : ((1 - d*(x1*x2*y1*y2)) + (y1*y2 - x1*x2))*((1 + d*(x1*x2*y1*y2)) + y1*y2 + x1*x2)*((y1 - y2)*(y1 - y2)) - (((1 - d*(x1*x2*y1*y2)) - (y1*y2 - x1*x2))*((1 + d*(x1*x2*y1*y2)) - y1*y2 - x1*x2)*((y1 + y2)*(y1 + y2))) = (- 4*d*y1*x2*x2*y2*y2*y2 + 4*y1*x2*x2*y2) * (x1*x1 + y1*y1 - 1 - d*x1*x1*y1*y1) + (- 4*y1*y1*y1*y2 + 4*y1*y2) * (x2*x2 + y2*y2 - 1 - d*x2*x2*y2*y2) := by grind -lia
theorem daddid (d x1 y1 x2 y2 : F) (h1 : x1*x1 + y1*y1 = 1 + d*x1*x1*y1*y1) (h2 : x2*x2 + y2*y2 = 1 + d*x2*x2*y2*y2) :
    ((1 - d*(x1*x2*y1*y2)) + (y1*y2 - x1*x2))*((1 + d*(x1*x2*y1*y2)) + y1*y2 + x1*x2)*((y1 - y2)*(y1 - y2)) = ((1 - d*(x1*x2*y1*y2)) - (y1*y2 - x1*x2))*((1 + d*(x1*x2*y1*y2)) - y1*y2 - x1*x2)*((y1 + y2)*(y1 + y2)) := by
  have g1 : x1*x1 + y1*y1 - 1 - d*x1*x1*y1*y1 = 0 := by rw [h1]; grind -lia
  have g2 : x2*x2 + y2*y2 - 1 - d*x2*x2*y2*y2 = 0 := by rw [h2]; grind -lia
  have k := daddid_id d x1 y1 x2 y2
  rw [g1, g2] at k
  exact eq2 k

/-! ### The curve x^2 + y^2 = 1 + d x^2 y^2, d no square: a complete law of addition. -/
def On (d : F) (p : F × F) : Prop := p.1 * p.1 + p.2 * p.2 = 1 + d * p.1 * p.1 * p.2 * p.2
def padd (d : F) (p q : F × F) : F × F :=
  ((p.1 * q.2 + p.2 * q.1) * inv (1 + d * (p.1 * q.1 * p.2 * q.2)), (p.2 * q.2 - p.1 * q.1) * inv (1 - d * (p.1 * q.1 * p.2 * q.2)))

theorem two_ne : (2 : F) ≠ 0 := by decide
theorem one_ne : (1 : F) ≠ 0 := by decide

/-- The denominators are never 0. -/
theorem complete_aux {d x1 y1 x2 y2 e : F} (hd : ¬ Sq d) (h1 : On d (x1, y1)) (h2 : On d (x2, y2)) (he : e * e = 1) : d * (x1 * x2 * y1 * y2) ≠ e := by
  intro hm
  unfold On at h1 h2
  simp only at h1 h2
  have he0 : e ≠ 0 := by intro h; rw [h] at he; exact one_ne (by grind -lia)
  have hx : x1 * y1 ≠ 0 := by
    intro h
    refine he0 ?_
    rw [← hm, show d * (x1 * x2 * y1 * y2) = x1 * y1 * (d * x2 * y2) by grind -lia, h]; grind -lia
  have sq : ∀ t : F, (t = x2 + y2 ∨ t = x2 - y2) → t ≠ 0 → Sq d := by
    intro t ht ht0
    have hxt : x1 * y1 * t ≠ 0 := mul_ne hx ht0
    have key : ∃ s, s * s = d * (x1 * y1 * t) * (x1 * y1 * t) := by
      have e1 : d * x1 * x1 * y1 * y1 * (x2 * x2 + y2 * y2) = x1 * x1 + y1 * y1 := by
        rw [h2, show d * x1 * x1 * y1 * y1 * (1 + d * x2 * x2 * y2 * y2) = d * x1 * x1 * y1 * y1 + d * (x1 * x2 * y1 * y2) * (d * (x1 * x2 * y1 * y2)) by grind -lia, hm, he, h1]
        grind -lia
      rcases ht with rfl | rfl
      · refine ⟨x1 + e * y1, ?_⟩
        rw [← hm] at he ⊢
        grind -lia
      · refine ⟨x1 - e * y1, ?_⟩
        rw [← hm] at he ⊢
        grind -lia
    obtain ⟨s, hs⟩ := key
    have hi := mul_inv hxt
    generalize inv (x1 * y1 * t) = i at hi
    generalize x1 * y1 * t = z at *
    refine ⟨s * i, ?_⟩
    rw [show s * i * (s * i) = s * s * (i * i) by grind -lia, hs]
    grind -lia
  have ha : x2 + y2 = 0 := Classical.byContradiction fun h => hd (sq _ (Or.inl rfl) h)
  have hb : x2 - y2 = 0 := Classical.byContradiction fun h => hd (sq _ (Or.inr rfl) h)
  have h2x : 2 * x2 = 0 := by grind -lia
  have hx2 : x2 = 0 := (mul_zero_or h2x).elim (fun h => absurd h two_ne) id
  refine he0 ?_
  rw [← hm, hx2]; grind -lia
theorem complete_add {d : F} {p q : F × F} (hd : ¬ Sq d) (hp : On d p) (hq : On d q) : 1 + d * (p.1 * q.1 * p.2 * q.2) ≠ 0 := by
  intro h
  refine complete_aux hd (x1 := p.1) (y1 := p.2) (x2 := q.1) (y2 := q.2) (e := -1) hp hq (by grind -lia) ?_
  generalize d * (p.1 * q.1 * p.2 * q.2) = m at *
  grind -lia
theorem complete_sub {d : F} {p q : F × F} (hd : ¬ Sq d) (hp : On d p) (hq : On d q) : 1 - d * (p.1 * q.1 * p.2 * q.2) ≠ 0 := by
  intro h
  refine complete_aux hd (x1 := p.1) (y1 := p.2) (x2 := q.1) (y2 := q.2) (e := 1) hp hq (by grind -lia) ?_
  generalize d * (p.1 * q.1 * p.2 * q.2) = m at *
  grind -lia

theorem padd_on {d : F} {p q : F × F} (hd : ¬ Sq d) (hp : On d p) (hq : On d q) : On d (padd d p q) := by
  have hB := complete_add hd hp hq
  have hD := complete_sub hd hp hq
  obtain ⟨x1, y1⟩ := p
  obtain ⟨x2, y2⟩ := q
  have hc := closure d x1 y1 x2 y2 hp hq
  simp only at hB hD
  have iB := mul_inv hB
  have iD := mul_inv hD
  unfold On padd
  simp only
  generalize inv (1 + d * (x1 * x2 * y1 * y2)) = b at *
  generalize inv (1 - d * (x1 * x2 * y1 * y2)) = c at *
  generalize (1 + d * (x1 * x2 * y1 * y2)) = B at *
  generalize (1 - d * (x1 * x2 * y1 * y2)) = D at *
  generalize x1 * y2 + y1 * x2 = A at *
  generalize y1 * y2 - x1 * x2 = C at *
  have hBD : (B * D) * (B * D) ≠ 0 := mul_ne (mul_ne hB hD) (mul_ne hB hD)
  refine cancelF hBD ?_
  have e1 : (A * b * (A * b) + C * c * (C * c)) * (B * D * (B * D)) = A * D * (A * D) * ((B * b) * (B * b)) + C * B * (C * B) * ((D * c) * (D * c)) := by grind -lia
  have e2 : (1 + d * (A * b) * (A * b) * (C * c) * (C * c)) * (B * D * (B * D)) = B * D * (B * D) + d * (A * C) * (A * C) * ((B * b) * (B * b)) * ((D * c) * (D * c)) := by grind -lia
  rw [e1, e2, iB, iD]
  grind -lia

theorem padd_comm (d : F) (p q : F × F) : padd d p q = padd d q p := by
  unfold padd
  rw [show p.1 * q.1 * p.2 * q.2 = q.1 * p.1 * q.2 * p.2 by grind -lia, show p.1 * q.2 + p.2 * q.1 = q.1 * p.2 + q.2 * p.1 by grind -lia, show p.2 * q.2 - p.1 * q.1 = q.2 * p.2 - q.1 * p.1 by grind -lia]
theorem inv_one : inv 1 = 1 := inv_eq (by grind -lia)
theorem padd_zero (d : F) (p : F × F) : padd d p (0, 1) = p := by
  unfold padd
  simp only
  rw [show (1 : F) + d * (p.1 * 0 * p.2 * 1) = 1 by grind -lia, show (1 : F) - d * (p.1 * 0 * p.2 * 1) = 1 by grind -lia, inv_one]
  apply Prod.ext <;> simp only <;> grind -lia

theorem padd_assoc {d : F} {p q r : F × F} (hd : ¬ Sq d) (hp : On d p) (hq : On d q) (hr : On d r) : padd d (padd d p q) r = padd d p (padd d q r) := by
  have hB := complete_add hd hp hq
  have hD := complete_sub hd hp hq
  have hB' := complete_add hd hq hr
  have hD' := complete_sub hd hq hr
  have hV := complete_add hd (padd_on hd hp hq) hr
  have hW := complete_sub hd (padd_on hd hp hq) hr
  have hV' := complete_add hd hp (padd_on hd hq hr)
  have hW' := complete_sub hd hp (padd_on hd hq hr)
  obtain ⟨x1, y1⟩ := p
  obtain ⟨x2, y2⟩ := q
  obtain ⟨x3, y3⟩ := r
  have ax := assocx d x1 y1 x2 y2 x3 y3 hp hq hr
  have ay := assocy d x1 y1 x2 y2 x3 y3 hp hq hr
  simp only at hB hD hB' hD'
  have iB := mul_inv hB
  have iD := mul_inv hD
  have iB' := mul_inv hB'
  have iD' := mul_inv hD'
  simp only [padd] at hV hW hV' hW' ⊢
  generalize inv (1 + d * (x1 * x2 * y1 * y2)) = b at *
  generalize inv (1 - d * (x1 * x2 * y1 * y2)) = c at *
  generalize inv (1 + d * (x2 * x3 * y2 * y3)) = b' at *
  generalize inv (1 - d * (x2 * x3 * y2 * y3)) = c' at *
  generalize (1 + d * (x1 * x2 * y1 * y2)) = B at *
  generalize (1 - d * (x1 * x2 * y1 * y2)) = D at *
  generalize (1 + d * (x2 * x3 * y2 * y3)) = B' at *
  generalize (1 - d * (x2 * x3 * y2 * y3)) = D' at *
  generalize x1 * y2 + y1 * x2 = A at *
  generalize y1 * y2 - x1 * x2 = C at *
  generalize x2 * y3 + y2 * x3 = A' at *
  generalize y2 * y3 - x2 * x3 = C' at *
  have hZ : (B * D) * (B' * D') ≠ 0 := mul_ne (mul_ne hB hD) (mul_ne hB' hD')
  apply Prod.ext
  · simp only
    refine frac_eq hV hV' (cancelF hZ ?_)
    have e1 : (A * b * y3 + C * c * x3) * (1 + d * (x1 * (A' * b') * y1 * (C' * c'))) * (B * D * (B' * D')) =
        (A * D * (B * b) * y3 + C * B * (D * c) * x3) * (B' * D' + d * x1 * y1 * A' * C' * (B' * b') * (D' * c')) := by grind -lia
    have e2 : (x1 * (C' * c') + y1 * (A' * b')) * (1 + d * (A * b * x3 * (C * c) * y3)) * (B * D * (B' * D')) =
        (x1 * C' * B' * (D' * c') + y1 * A' * D' * (B' * b')) * (B * D + d * A * C * (B * b) * (D * c) * x3 * y3) := by grind -lia
    rw [e1, e2, iB, iD, iB', iD']
    grind -lia
  · simp only
    refine frac_eq hW hW' (cancelF hZ ?_)
    have e1 : (C * c * y3 - A * b * x3) * (1 - d * (x1 * (A' * b') * y1 * (C' * c'))) * (B * D * (B' * D')) =
        (C * B * (D * c) * y3 - A * D * (B * b) * x3) * (B' * D' - d * x1 * y1 * A' * C' * (B' * b') * (D' * c')) := by grind -lia
    have e2 : (y1 * (C' * c') - x1 * (A' * b')) * (1 - d * (A * b * x3 * (C * c) * y3)) * (B * D * (B' * D')) =
        (y1 * C' * B' * (D' * c') - x1 * A' * D' * (B' * b')) * (B * D - d * A * C * (B * b) * (D * c) * x3 * y3) := by grind -lia
    rw [e1, e2, iB, iD, iB', iD']
    grind -lia

/-- n times a point. -/
def pmul (d : F) (p : F × F) : Nat → F × F
  | 0 => (0, 1)
  | n + 1 => padd d (pmul d p n) p
theorem zero_on (d : F) : On d (0, 1) := by unfold On; simp only; grind -lia
theorem pmul_on {d : F} {p : F × F} (hd : ¬ Sq d) (hp : On d p) : ∀ n, On d (pmul d p n)
  | 0 => zero_on d
  | n + 1 => padd_on hd (pmul_on hd hp n) hp
theorem pmul_add {d : F} {p : F × F} (hd : ¬ Sq d) (hp : On d p) (m : Nat) : ∀ n, pmul d p (m + n) = padd d (pmul d p m) (pmul d p n)
  | 0 => (padd_zero d _).symm
  | n + 1 => by
    show padd d (pmul d p (m + n)) p = padd d (pmul d p m) (padd d (pmul d p n) p)
    rw [pmul_add hd hp m n, padd_assoc hd (pmul_on hd hp m) (pmul_on hd hp n) hp]
theorem pmul_mul {d : F} {p : F × F} (hd : ¬ Sq d) (hp : On d p) (m : Nat) : ∀ n, pmul d (pmul d p m) n = pmul d p (m * n)
  | 0 => rfl
  | n + 1 => by
    show padd d (pmul d (pmul d p m) n) (pmul d p m) = _
    rw [pmul_mul hd hp m n, Nat.mul_succ, pmul_add hd hp]
theorem pmul_one {d : F} {p : F × F} : pmul d p 1 = p := by
  show padd d (0, 1) p = p
  rw [padd_comm, padd_zero]
def pneg (p : F × F) : F × F := (-p.1, p.2)
theorem pneg_on {d : F} {p : F × F} (hp : On d p) : On d (pneg p) := by
  unfold On pneg at *; simp only; grind -lia
theorem padd_pneg {d : F} {p : F × F} (hd : ¬ Sq d) (hp : On d p) : padd d p (pneg p) = (0, 1) := by
  have hB := complete_add hd hp (pneg_on hp)
  have hD := complete_sub hd hp (pneg_on hp)
  have iD := mul_inv hD
  unfold padd
  unfold On at hp
  simp only [pneg] at *
  apply Prod.ext
  · simp only
    rw [show p.1 * p.2 + p.2 * -p.1 = 0 by grind -lia]; grind -lia
  · simp only
    rw [show p.2 * p.2 - p.1 * -p.1 = 1 - d * (p.1 * -p.1 * p.2 * p.2) by grind -lia]; exact iD
/-! ### The ladder of RFC 7748, over the field. -/
def dblF (p : F × F) : F × F :=
  let s := (p.1 + p.2) * (p.1 + p.2)
  let t := (p.1 - p.2) * (p.1 - p.2)
  let e := s - t
  (s * t, e * (s + e * 121665))
def addF (u : F) (p q : F × F) : F × F :=
  let m := (q.1 - q.2) * (p.1 + p.2)
  let n := (q.1 + q.2) * (p.1 - p.2)
  ((m + n) * (m + n), u * ((m - n) * (m - n)))
def stepF (u : F) (s : (F × F) × (F × F)) (b : Bool) : (F × F) × (F × F) :=
  if b then (addF u s.1 s.2, dblF s.2) else (dblF s.1, addF u s.1 s.2)
def ladF (u : F) (bits : List Bool) : (F × F) × (F × F) := bits.foldl (stepF u) ((1, 0), (u, 1))
def outF (p : F × F) : F := p.1 * inv p.2
def xlF (u : F) (bits : List Bool) : F := outF (ladF u bits).1
def valB (bits : List Bool) : Nat := bits.foldl (fun n b => 2 * n + b.toNat) 0

/-- (X : Z) stands for the point of the part y: X / Z = e (1 + y) / (1 - y). -/
def Rel (e : F) (P : F × F) (p : F × F) : Prop := ∃ l : F, l ≠ 0 ∧ p.1 = l * (1 + P.2) ∧ p.2 = e * (l * (1 - P.2))
/-- e, d belong together: the curve itself, or that of the other sign. -/
def Fits (e d : F) : Prop := (e = 1 ∧ d * 121666 = 121665) ∨ (e = -1 ∧ d * 121665 = 121666)

theorem one_sub_ne {d x : F} (hd : ¬ Sq d) : 1 - d * (x * x) ≠ 0 := by
  intro h
  have hx : x ≠ 0 := by intro e; rw [e] at h; exact one_ne (by grind -lia)
  have hi := mul_inv hx
  generalize inv x = i at hi
  exact hd ⟨i, by grind -lia⟩
theorem four_ne : (4 : F) ≠ 0 := by decide
theorem eight_ne : (8 : F) ≠ 0 := by decide
theorem sixteen_ne : (16 : F) ≠ 0 := by decide

theorem dbl_g {d x y a g : F} (hon : x * x + y * y = 1 + d * x * x * y * y) (ha : d * (a + 1) = a) (hg : g = 1 + a * (1 - y * y)) : g * (1 - d * (x * x)) = 1 := by
  subst hg
  grind -lia

theorem dbl_rel {e d : F} {P p : F × F} (hd : ¬ Sq d) (hf : Fits e d) (hP : On d P) (h : Rel e P p) : Rel e (padd d P P) (dblF p) := by
  obtain ⟨l, hl, hX, hZ⟩ := h
  obtain ⟨x, y⟩ := P
  obtain ⟨X, Z⟩ := p
  have hD := complete_sub hd hP hP
  unfold On at hP
  simp only at hP hX hZ hD
  have iD := mul_inv hD
  unfold Rel dblF padd
  simp only
  generalize inv (1 - d * (x * x * y * y)) = c at *
  have hg : ∃ g : F, g * (1 - d * (x * x)) = 1 ∧ ((e = 1 ∧ g = 1 + 121665 * (1 - y * y)) ∨ (e = -1 ∧ g = y * y + 121665 * (y * y - 1))) := by
    rcases hf with ⟨he, hdd⟩ | ⟨he, hdd⟩
    · exact ⟨_, dbl_g hP (by rw [← hdd]; grind -lia) rfl, Or.inl ⟨he, rfl⟩⟩
    · refine ⟨_, dbl_g (a := -121666) hP ?_ rfl, Or.inr ⟨he, ?_⟩⟩
      · rw [show (-121666 : F) + 1 = -121665 by grind -lia]; grind -lia
      · grind -lia
  obtain ⟨g, hg1, hg2⟩ := hg
  have hg0 : g ≠ 0 := by intro e; rw [e] at hg1; exact one_ne (by grind -lia)
  refine ⟨8 * (l * l * l * l) * ((1 - d * (x * x * y * y)) * g), mul_ne (mul_ne eight_ne (mul_ne (mul_ne (mul_ne hl hl) hl) hl)) (mul_ne hD hg0), ?_, ?_⟩
  · have e1 : (1 - d * (x * x * y * y)) * (1 + (y * y - x * x) * c) = 2 * (y * y * (1 - d * (x * x))) := by
      rw [show (1 - d * (x * x * y * y)) * (1 + (y * y - x * x) * c) = (1 - d * (x * x * y * y)) + (y * y - x * x) * ((1 - d * (x * x * y * y)) * c) by grind -lia, iD]
      grind -lia
    rw [show 8 * (l * l * l * l) * ((1 - d * (x * x * y * y)) * g) * (1 + (y * y - x * x) * c) = 8 * (l * l * l * l) * g * ((1 - d * (x * x * y * y)) * (1 + (y * y - x * x) * c)) by grind -lia, e1]
    rw [show 8 * (l * l * l * l) * g * (2 * (y * y * (1 - d * (x * x)))) = 16 * (l * l * l * l) * (y * y) * (g * (1 - d * (x * x))) by grind -lia, hg1, hX, hZ]
    rcases hg2 with ⟨he, _⟩ | ⟨he, _⟩ <;> subst he <;> grind -lia
  · have e1 : (1 - d * (x * x * y * y)) * (1 - (y * y - x * x) * c) = 2 * (1 - y * y) := by
      rw [show (1 - d * (x * x * y * y)) * (1 - (y * y - x * x) * c) = (1 - d * (x * x * y * y)) - (y * y - x * x) * ((1 - d * (x * x * y * y)) * c) by grind -lia, iD]
      grind -lia
    rw [show e * (8 * (l * l * l * l) * ((1 - d * (x * x * y * y)) * g) * (1 - (y * y - x * x) * c)) = e * (8 * (l * l * l * l) * g * ((1 - d * (x * x * y * y)) * (1 - (y * y - x * x) * c))) by grind -lia, e1, hX, hZ]
    clear e1 iD hg1 hD hP
    rcases hg2 with ⟨he, hgg⟩ | ⟨he, hgg⟩ <;> subst he hgg <;> grind -lia

theorem fits_sq {e d : F} (hf : Fits e d) : e * e = 1 := by
  rcases hf with ⟨h, _⟩ | ⟨h, _⟩ <;> subst h <;> grind -lia

theorem add_rel {e d u : F} {P R p q : F × F} (hd : ¬ Sq d) (hf : Fits e d) (hP : On d P) (hR : On d R) (hu : u ≠ 0)
    (hG : u * (e * (1 - (padd d R (pneg P)).2)) = 1 + (padd d R (pneg P)).2)
    (h : Rel e P p) (h' : Rel e R q) : Rel e (padd d P R) (addF u p q) := by
  obtain ⟨l, hl, hX, hZ⟩ := h
  obtain ⟨k, hk, hX', hZ'⟩ := h'
  have hB := complete_add hd hP hR
  have hD := complete_sub hd hP hR
  obtain ⟨x1, y1⟩ := P
  obtain ⟨x2, y2⟩ := R
  obtain ⟨X1, Z1⟩ := p
  obtain ⟨X2, Z2⟩ := q
  have hid := daddid d x1 y1 x2 y2 hP hR
  have hee := fits_sq hf
  unfold On at hP hR
  unfold pneg padd at hG
  simp only at hB hD hP hR hX hZ hX' hZ' hG
  rw [show 1 - d * (x2 * -x1 * y2 * y1) = 1 + d * (x1 * x2 * y1 * y2) by grind -lia, show y2 * y1 - x2 * -x1 = y1 * y2 + x1 * x2 by grind -lia] at hG
  have iB := mul_inv hB
  have iD := mul_inv hD
  unfold Rel addF padd
  simp only
  generalize inv (1 + d * (x1 * x2 * y1 * y2)) = b at *
  generalize inv (1 - d * (x1 * x2 * y1 * y2)) = c at *
  -- the product of both sides
  have hST : (1 + (y1 * y2 - x1 * x2) * c) * (1 + (y1 * y2 + x1 * x2) * b) * ((y1 - y2) * (y1 - y2)) = (1 - (y1 * y2 - x1 * x2) * c) * (1 - (y1 * y2 + x1 * x2) * b) * ((y1 + y2) * (y1 + y2)) := by
    have hBD : (1 + d * (x1 * x2 * y1 * y2)) * (1 - d * (x1 * x2 * y1 * y2)) ≠ 0 := mul_ne hB hD
    refine cancelF hBD ?_
    generalize (1 + d * (x1 * x2 * y1 * y2)) = B at *
    generalize (1 - d * (x1 * x2 * y1 * y2)) = D at *
    rw [show (1 + (y1 * y2 - x1 * x2) * c) * (1 + (y1 * y2 + x1 * x2) * b) * ((y1 - y2) * (y1 - y2)) * (B * D) = (D + (y1 * y2 - x1 * x2) * (D * c)) * (B + (y1 * y2 + x1 * x2) * (B * b)) * ((y1 - y2) * (y1 - y2)) by grind -lia,
      show (1 - (y1 * y2 - x1 * x2) * c) * (1 - (y1 * y2 + x1 * x2) * b) * ((y1 + y2) * (y1 + y2)) * (B * D) = (D - (y1 * y2 - x1 * x2) * (D * c)) * (B - (y1 * y2 + x1 * x2) * (B * b)) * ((y1 + y2) * (y1 + y2)) by grind -lia, iB, iD]
    clear hG hX hZ hX' hZ' hP hR hee
    grind -lia
  have hne : 1 - (y1 * y2 + x1 * x2) * b ≠ 0 := by
    intro h0
    rw [h0] at hG
    have h1 : 1 + (y1 * y2 + x1 * x2) * b = 0 := by rw [← hG]; grind -lia
    exact two_ne (by grind -lia)
  have hne' : 1 + (y1 * y2 + x1 * x2) * b ≠ 0 := by
    rw [← hG]
    refine mul_ne hu (mul_ne ?_ hne)
    intro h0; rw [h0] at hee; exact one_ne (by grind -lia)
  have hS0 : (y1 + y2) * (y1 + y2) = 0 → (y1 - y2) * (y1 - y2) = 0 → False := by
    intro hs ht
    have hs' := sq_zero hs
    have ht' := sq_zero ht
    have h2y : 2 * y1 = 0 := by grind -lia
    have hy1 : y1 = 0 := (mul_zero_or h2y).elim (fun h => absurd h two_ne) id
    have hy2 : y2 = 0 := by grind -lia
    subst hy1 hy2
    have hx1 : x1 * x1 = 1 := by grind -lia
    have hx2 : x2 * x2 = 1 := by grind -lia
    have hb : b = 1 := by grind -lia
    subst hb
    refine mul_ne hne hne' ?_
    grind -lia
  generalize (y1 * y2 - x1 * x2) * c = yp at *
  generalize (y1 * y2 + x1 * x2) * b = y0 at *
  have hcross : (1 + yp) * (u * e * ((y1 - y2) * (y1 - y2))) = (1 - yp) * ((y1 + y2) * (y1 + y2)) := by
    refine cancelF hne ?_
    rw [show (1 - yp) * ((y1 + y2) * (y1 + y2)) * (1 - y0) = (1 - yp) * (1 - y0) * ((y1 + y2) * (y1 + y2)) by grind -lia, ← hST, ← hG]
    grind -lia
  have hX5 : ((X2 - Z2) * (X1 + Z1) + (X2 + Z2) * (X1 - Z1)) * ((X2 - Z2) * (X1 + Z1) + (X2 + Z2) * (X1 - Z1)) = 16 * (l * l * k * k) * ((y1 + y2) * (y1 + y2)) := by
    rw [hX, hZ, hX', hZ']
    rcases hf with ⟨he, _⟩ | ⟨he, _⟩ <;> subst he <;> grind -lia
  have hZ5 : u * (((X2 - Z2) * (X1 + Z1) - (X2 + Z2) * (X1 - Z1)) * ((X2 - Z2) * (X1 + Z1) - (X2 + Z2) * (X1 - Z1))) = 16 * (l * l * k * k) * (u * ((y1 - y2) * (y1 - y2))) := by
    rw [hX, hZ, hX', hZ']
    rcases hf with ⟨he, _⟩ | ⟨he, _⟩ <;> subst he <;> grind -lia
  rw [hX5, hZ5]
  clear hX5 hZ5 hX hZ hX' hZ' hG hST hid hP hR iB iD hB hD hf
  generalize (y1 + y2) * (y1 + y2) = S at *
  generalize (y1 - y2) * (y1 - y2) = T at *
  have i2 := mul_inv two_ne
  generalize inv 2 = h at i2
  refine ⟨16 * (l * l * k * k) * ((S + u * e * T) * h), mul_ne (mul_ne sixteen_ne (mul_ne (mul_ne (mul_ne hl hl) hk) hk)) (mul_ne ?_ ?_), ?_, ?_⟩
  · intro h0
    have hS : S = 0 := by grind -lia
    have hu' : u * e * T = 0 := by grind -lia
    have he0 : u * e ≠ 0 := mul_ne hu (by intro h0; rw [h0] at hee; exact one_ne (by grind -lia))
    exact hS0 hS ((mul_zero_or hu').elim (fun h => absurd h he0) id)
  · intro h0; rw [h0] at i2; exact one_ne (by grind -lia)
  · have : (S + u * e * T) * h * (1 + yp) = S := by grind -lia
    rw [show 16 * (l * l * k * k) * ((S + u * e * T) * h) * (1 + yp) = 16 * (l * l * k * k) * ((S + u * e * T) * h * (1 + yp)) by grind -lia, this]
  · have : e * ((S + u * e * T) * h * (1 - yp)) = u * T := by grind -lia
    rw [show e * (16 * (l * l * k * k) * ((S + u * e * T) * h) * (1 - yp)) = 16 * (l * l * k * k) * (e * ((S + u * e * T) * h * (1 - yp))) by grind -lia, this]
/-- What the ladder keeps. -/
theorem lad_inv {e d u : F} {G : F × F} (hd : ¬ Sq d) (hf : Fits e d) (hG : On d G) (hu : u ≠ 0) (hug : u * (e * (1 - G.2)) = 1 + G.2) :
    ∀ (bits : List Bool) (n : Nat) (s : (F × F) × (F × F)), Rel e (pmul d G n) s.1 → Rel e (pmul d G (n + 1)) s.2 →
      Rel e (pmul d G (bits.foldl (fun n b => 2 * n + b.toNat) n)) (bits.foldl (stepF u) s).1 ∧
      Rel e (pmul d G (bits.foldl (fun n b => 2 * n + b.toNat) n + 1)) (bits.foldl (stepF u) s).2
  | [], n, s, h1, h2 => ⟨h1, h2⟩
  | b :: bits, n, s, h1, h2 => by
    have hn := pmul_on hd hG n
    have hn1 := pmul_on hd hG (n + 1)
    have hdiff : padd d (pmul d G (n + 1)) (pneg (pmul d G n)) = G := by
      rw [Nat.add_comm n 1, pmul_add hd hG, padd_assoc hd (pmul_on hd hG 1) hn (pneg_on hn), padd_pneg hd hn, padd_zero, pmul_one]
    have ha : Rel e (pmul d G (n + (n + 1))) (addF u s.1 s.2) := by
      rw [pmul_add hd hG]
      exact add_rel hd hf hn hn1 hu (by rw [hdiff]; exact hug) h1 h2
    simp only [List.foldl_cons]
    refine lad_inv hd hf hG hu hug bits (2 * n + b.toNat) _ ?_ ?_
    · cases b
      · have := dbl_rel hd hf hn h1
        rw [← pmul_add hd hG] at this
        rw [show 2 * n + false.toNat = n + n by simp; omega]; exact this
      · rw [show 2 * n + true.toNat = n + (n + 1) by simp; omega]; exact ha
    · cases b
      · rw [show 2 * n + false.toNat + 1 = n + (n + 1) by simp; omega]; exact ha
      · have := dbl_rel hd hf hn1 h2
        rw [← pmul_add hd hG] at this
        rw [show 2 * n + true.toNat + 1 = (n + 1) + (n + 1) by simp; omega]; exact this

/-- The part u of a point, 0 at the point 0. -/
def uOf (e : F) (P : F × F) : F := e * (1 + P.2) * inv (1 - P.2)

theorem out_rel {e : F} {P p : F × F} (hee : e * e = 1) (h : Rel e P p) : outF p = uOf e P := by
  obtain ⟨l, hl, hX, hZ⟩ := h
  unfold outF uOf
  have he : e ≠ 0 := by intro h0; rw [h0] at hee; exact one_ne (by grind -lia)
  by_cases h0 : 1 - P.2 = 0
  · rw [hZ, h0, show e * (l * 0) = 0 by grind -lia, inv_zero]; grind -lia
  · have hZ0 : p.2 ≠ 0 := by rw [hZ]; exact mul_ne he (mul_ne hl h0)
    refine frac_eq hZ0 h0 ?_
    rw [hX, hZ]
    rw [show e * (1 + P.2) * (e * (l * (1 - P.2))) = e * e * (l * (1 + P.2) * (1 - P.2)) by grind -lia, hee]; grind -lia

theorem xl_main {e d u : F} {G : F × F} (hd : ¬ Sq d) (hf : Fits e d) (hG : On d G) (hu : u ≠ 0) (hug : u * (e * (1 - G.2)) = 1 + G.2) (bits : List Bool) :
    xlF u bits = uOf e (pmul d G (valB bits)) := by
  have hee := fits_sq hf
  have he : e ≠ 0 := by intro h0; rw [h0] at hee; exact one_ne (by grind -lia)
  refine out_rel hee (lad_inv hd hf hG hu hug bits 0 ((1, 0), (u, 1)) ?_ ?_).1
  · have i2 := mul_inv two_ne
    refine ⟨inv 2, ?_, ?_, ?_⟩
    · intro h0; rw [h0] at i2; exact one_ne (by grind -lia)
    · show (1 : F) = inv 2 * (1 + 1)
      generalize inv 2 = h at *
      grind -lia
    · show (0 : F) = e * (inv 2 * (1 - 1))
      grind -lia
  · have h1 : 1 - G.2 ≠ 0 := by
      intro h0; rw [h0] at hug
      exact two_ne (by grind -lia)
    have i1 := mul_inv h1
    rw [Nat.zero_add, pmul_one]
    refine ⟨e * inv (1 - G.2), mul_ne he ?_, ?_, ?_⟩
    · intro h0; rw [h0] at i1; exact one_ne (by grind -lia)
    · show u = _
      rw [← hug]
      rw [show e * inv (1 - G.2) * (u * (e * (1 - G.2))) = e * e * u * ((1 - G.2) * inv (1 - G.2)) by grind -lia, i1, hee]; grind -lia
    · show (1 : F) = _
      rw [show e * (e * inv (1 - G.2) * (1 - G.2)) = e * e * ((1 - G.2) * inv (1 - G.2)) by grind -lia, i1, hee]; grind -lia

/-- Of 0: by bits that end in false the ladder makes 0. -/
theorem xl_zero (bits : List Bool) : xlF 0 (bits ++ [false]) = 0 := by
  have inv0 : ∀ (l : List Bool) (s : (F × F) × (F × F)), s.1.1 * s.1.2 = 0 → s.2.1 * s.2.2 = 0 →
      (l.foldl (stepF 0) s).1.1 * (l.foldl (stepF 0) s).1.2 = 0 ∧ (l.foldl (stepF 0) s).2.1 * (l.foldl (stepF 0) s).2.2 = 0 := by
    intro l
    induction l with
    | nil => intro s h1 h2; exact ⟨h1, h2⟩
    | cons b l ih =>
      intro s h1 h2
      simp only [List.foldl_cons]
      cases b
      · refine ih _ ?_ ?_
        · show (dblF s.1).1 * (dblF s.1).2 = 0
          simp only [dblF]
          rw [show (s.1.1 + s.1.2) * (s.1.1 + s.1.2) - (s.1.1 - s.1.2) * (s.1.1 - s.1.2) = 4 * (s.1.1 * s.1.2) by grind -lia, h1]; grind -lia
        · show (addF 0 s.1 s.2).1 * (addF 0 s.1 s.2).2 = 0
          simp only [addF]; grind -lia
      · refine ih _ ?_ ?_
        · show (addF 0 s.1 s.2).1 * (addF 0 s.1 s.2).2 = 0
          simp only [addF]; grind -lia
        · show (dblF s.2).1 * (dblF s.2).2 = 0
          simp only [dblF]
          rw [show (s.2.1 + s.2.2) * (s.2.1 + s.2.2) - (s.2.1 - s.2.2) * (s.2.1 - s.2.2) = 4 * (s.2.1 * s.2.2) by grind -lia, h2]; grind -lia
  unfold xlF ladF
  rw [List.foldl_append]
  have := (inv0 bits ((1, 0), (0, 1)) (by show (1 : F) * 0 = 0; grind -lia) (by show (0 : F) * 1 = 0; grind -lia)).1
  generalize bits.foldl (stepF 0) ((1, 0), (0, 1)) = s at *
  show outF (dblF s.1) = 0
  unfold outF
  have hz : (dblF s.1).2 = 0 := by
    simp only [dblF]
    rw [show (s.1.1 + s.1.2) * (s.1.1 + s.1.2) - (s.1.1 - s.1.2) * (s.1.1 - s.1.2) = 4 * (s.1.1 * s.1.2) by grind -lia, this]; grind -lia
  rw [hz, inv_zero]; grind -lia

theorem valB_snoc (bits : List Bool) (b : Bool) : valB (bits ++ [b]) = 2 * valB bits + b.toNat := by
  unfold valB; rw [List.foldl_append]; rfl

/-- Whatever point of the curve: the ladder by an even number. -/
theorem xl_even {e d : F} {G : F × F} (hd : ¬ Sq d) (hf : Fits e d) (hG : On d G) (bits : List Bool) :
    xlF (uOf e G) (bits ++ [false]) = uOf e (pmul d G (valB (bits ++ [false]))) := by
  have hee := fits_sq hf
  have he : e ≠ 0 := by intro h0; rw [h0] at hee; exact one_ne (by grind -lia)
  have hd1 : 1 - d ≠ 0 := by
    have := one_sub_ne (x := 1) hd
    rwa [show (1 : F) * 1 = 1 by grind -lia, show d * 1 = d by grind -lia] at this
  have hx0 : G.2 * G.2 = 1 → G.1 = 0 := by
    intro h
    unfold On at hG
    have : (1 - d) * (G.1 * G.1) = 0 := by
      generalize G.1 = x at *; generalize G.2 = y at *; grind -lia
    exact sq_zero ((mul_zero_or this).elim (fun h => absurd h hd1) id)
  have hzero : uOf e (0, 1) = 0 := by
    unfold uOf
    simp only
    rw [show (1 : F) - 1 = 0 by grind -lia, inv_zero]; grind -lia
  by_cases h1 : 1 - G.2 = 0
  · have hy : G.2 = 1 := by generalize G.2 = y at *; grind -lia
    have hx := hx0 (by rw [hy]; grind -lia)
    have hGe : G = (0, 1) := Prod.ext hx hy
    subst hGe
    have hm : ∀ n, pmul d (0, 1) n = (0, 1) := by
      intro n
      induction n with
      | zero => rfl
      | succ n ih => show padd d (pmul d (0, 1) n) (0, 1) = _; rw [padd_zero, ih]
    rw [hm, hzero]; exact xl_zero bits
  · by_cases h2 : 1 + G.2 = 0
    · have hy : G.2 = -1 := by generalize G.2 = y at *; grind -lia
      have hx := hx0 (by rw [hy]; grind -lia)
      have hGe : G = (0, -1) := Prod.ext hx hy
      subst hGe
      have hu0 : uOf e (0, -1) = 0 := by
        unfold uOf
        simp only
        rw [show (1 : F) + -1 = 0 by grind -lia]; grind -lia
      rw [hu0, xl_zero, valB_snoc]
      have h2m : pmul d (0, -1) 2 = (0, 1) := by
        show padd d (padd d (0, 1) (0, -1)) (0, -1) = _
        rw [padd_comm d (0, 1), padd_zero]
        unfold padd
        simp only
        rw [show (1 : F) + d * (0 * 0 * -1 * -1) = 1 by grind -lia, show (1 : F) - d * (0 * 0 * -1 * -1) = 1 by grind -lia, inv_one]
        apply Prod.ext <;> simp only <;> grind -lia
      have hm : ∀ n, pmul d (0, 1) n = (0, 1) := by
        intro n
        induction n with
        | zero => rfl
        | succ n ih => show padd d (pmul d (0, 1) n) (0, 1) = _; rw [padd_zero, ih]
      rw [show 2 * valB bits + false.toNat = 2 * valB bits by simp, ← pmul_mul hd hG, h2m, hm, hzero]
    · have hi := mul_inv h1
      refine xl_main hd hf hG ?_ ?_ _
      · unfold uOf
        refine mul_ne (mul_ne he h2) ?_
        intro h0; rw [h0] at hi; exact one_ne (by grind -lia)
      · unfold uOf
        rw [show e * (1 + G.2) * inv (1 - G.2) * (e * (1 - G.2)) = e * e * (1 + G.2) * ((1 - G.2) * inv (1 - G.2)) by grind -lia, hi, hee]; grind -lia

/-! ### Every u is the part of a point of one of both curves. -/
theorem c_nonsq : ¬ Sq ((486664 : F) * 486660) := nonsq_of (by decide) (fp_by _ _ 256 (by decide +kernel) (-1) (by decide +kernel))
theorem d_ex1 : ∃ d : F, d * 121666 = 121665 ∧ ¬ Sq d := by
  have hi := mul_inv (a := (121666 : F)) (by decide)
  refine ⟨121665 * inv 121666, ?_, ?_⟩
  · generalize inv 121666 = i at *; grind -lia
  · rintro ⟨s, hs⟩
    refine c_nonsq ⟨486664 * s, ?_⟩
    rw [show (486664 : F) * s * (486664 * s) = 486664 * 486664 * (s * s) by grind -lia, hs]
    generalize inv 121666 = i at *
    rw [show (486664 : F) * 486664 * (121665 * i) = 486664 * 486660 * (121666 * i) by grind -lia, hi]; grind -lia
theorem d_ex2 : ∃ d : F, d * 121665 = 121666 ∧ ¬ Sq d := by
  have hi := mul_inv (a := (121665 : F)) (by decide)
  refine ⟨121666 * inv 121665, ?_, ?_⟩
  · generalize inv 121665 = i at *; grind -lia
  · rintro ⟨s, hs⟩
    refine c_nonsq ⟨486660 * s, ?_⟩
    rw [show (486660 : F) * s * (486660 * s) = 486660 * 486660 * (s * s) by grind -lia, hs]
    generalize inv 121665 = i at *
    rw [show (486660 : F) * 486660 * (121666 * i) = 486664 * 486660 * (121665 * i) by grind -lia, hi]; grind -lia

theorem w_ne (u : F) : u * u + 486662 * u + 1 ≠ 0 := by
  intro h
  refine c_nonsq ⟨2 * u + 486662, ?_⟩
  have : (2 * u + 486662) * (2 * u + 486662) = 4 * (u * u + 486662 * u + 1) + 486664 * 486660 := by grind -lia
  rw [this, h]; grind -lia

/-- On the curve with the sign e: u is the part of a point when (e A + 2) u w is a square. -/
theorem lift_u {e d a u : F} (hf : Fits e d) (hu : u ≠ 0) (ha : a = 486662 + 2 * e) (hs : Sq (a * (u * (u * u + 486662 * u + 1)))) :
    ∃ G, On d G ∧ u = uOf e G := by
  have hee := fits_sq hf
  have he : e ≠ 0 := by intro h0; rw [h0] at hee; exact one_ne (by grind -lia)
  have hw := w_ne u
  obtain ⟨s, hs⟩ := hs
  have hue : u + e ≠ 0 := by
    intro h0
    have h1 : u = -e := by grind -lia
    subst h1
    refine c_nonsq ⟨s, ?_⟩
    rw [hs, ha]
    rcases hf with ⟨he1, _⟩ | ⟨he1, _⟩ <;> subst he1 <;> grind -lia
  have hi := mul_inv hue
  have hiw := mul_inv hw
  have h2 := mul_inv two_ne
  refine ⟨(s * inv (u * u + 486662 * u + 1), (u - e) * inv (u + e)), ?_, ?_⟩
  · unfold On
    simp only
    generalize inv (u * u + 486662 * u + 1) = j at *
    have hwd : (u * u + 486662 * u + 1) = u * u + 486662 * u + 1 := rfl
    generalize hwe : (u * u + 486662 * u + 1) = w at *
    clear hwd
    generalize inv (u + e) = i at *
    -- multiplied by w and (u + e)^2
    have hz : w * ((u + e) * (u + e)) ≠ 0 := mul_ne hw (mul_ne hue hue)
    refine cancelF hz ?_
    have x2 : s * j * (s * j) * w = a * u := by
      rw [show s * j * (s * j) * w = s * s * j * (w * j) by grind -lia, hs, hiw]
      rw [show a * (u * w) * j * 1 = a * u * (w * j) by grind -lia, hiw]; grind -lia
    have y2 : (u - e) * i * ((u - e) * i) * ((u + e) * (u + e)) = (u - e) * (u - e) := by
      rw [show (u - e) * i * ((u - e) * i) * ((u + e) * (u + e)) = (u - e) * (u - e) * (((u + e) * i) * ((u + e) * i)) by grind -lia, hi]; grind -lia
    generalize s * j * (s * j) = xx at *
    rw [show (1 + d * (s * j) * (s * j) * ((u - e) * i) * ((u - e) * i)) * (w * ((u + e) * (u + e))) = w * ((u + e) * (u + e)) + d * ((s * j * (s * j)) * w) * ((u - e) * i * ((u - e) * i) * ((u + e) * (u + e))) by grind -lia]
    rw [show s * j * (s * j) * w = a * u by rw [show s * j * (s * j) * w = s * s * j * (w * j) by grind -lia, hs, hiw, show a * (u * w) * j * 1 = a * u * (w * j) by grind -lia, hiw]; grind -lia]
    rw [show (xx + (u - e) * i * ((u - e) * i)) * (w * ((u + e) * (u + e))) = xx * w * ((u + e) * (u + e)) + w * ((u - e) * i * ((u - e) * i) * ((u + e) * (u + e))) by grind -lia, x2, y2, ha, ← hwe]
    rcases hf with ⟨he1, hdd⟩ | ⟨he1, hdd⟩ <;> subst he1 <;> clear hs hw hiw hwe hz x2 y2 hi h2 hee he hue <;> grind -lia
  · unfold uOf
    simp only
    have h1 : 1 - (u - e) * inv (u + e) ≠ 0 := by
      intro h0
      have : (1 - (u - e) * inv (u + e)) * (u + e) = 2 * e := by
        generalize inv (u + e) = i at *; grind -lia
      rw [h0] at this
      refine mul_ne two_ne he ?_
      rw [← this]; grind -lia
    have hk := mul_inv h1
    refine cancelF h1 ?_
    generalize inv (1 - (u - e) * inv (u + e)) = k at *
    generalize inv (u + e) = i at *
    rw [show e * (1 + (u - e) * i) * k * (1 - (u - e) * i) = e * (1 + (u - e) * i) * ((1 - (u - e) * i) * k) by grind -lia, hk]
    refine cancelF hue ?_
    clear hk h1
    grind -lia

theorem every_u (u : F) : ∃ e d G, ¬ Sq d ∧ Fits e d ∧ On d G ∧ u = uOf e G := by
  obtain ⟨d1, hd1, hn1⟩ := d_ex1
  obtain ⟨d2, hd2, hn2⟩ := d_ex2
  by_cases hu : u = 0
  · refine ⟨1, d1, (0, 1), hn1, Or.inl ⟨rfl, hd1⟩, zero_on _, ?_⟩
    unfold uOf
    simp only
    rw [show (1 : F) - 1 = 0 by grind -lia, inv_zero, hu]; grind -lia
  · by_cases hs : Sq (486664 * (u * (u * u + 486662 * u + 1)))
    · obtain ⟨G, h1, h2⟩ := lift_u (e := 1) (a := 486664) (Or.inl ⟨rfl, hd1⟩) hu (by decide) hs
      exact ⟨1, d1, G, hn1, Or.inl ⟨rfl, hd1⟩, h1, h2⟩
    · have hs2 : Sq (486660 * (u * (u * u + 486662 * u + 1))) := by
        obtain ⟨s, hs'⟩ := nonsq_mul hs c_nonsq
        have hi := mul_inv (a := (486664 : F)) (by decide)
        generalize inv 486664 = i at *
        refine ⟨s * i, ?_⟩
        rw [show s * i * (s * i) = s * s * (i * i) by grind -lia, hs']
        rw [show 486664 * (u * (u * u + 486662 * u + 1)) * (486664 * 486660) * (i * i) = 486660 * (u * (u * u + 486662 * u + 1)) * ((486664 * i) * (486664 * i)) by grind -lia, hi]; grind -lia
      obtain ⟨G, h1, h2⟩ := lift_u (e := -1) (a := 486660) (Or.inr ⟨rfl, hd2⟩) hu (by decide) hs2
      exact ⟨-1, d2, G, hn2, Or.inr ⟨rfl, hd2⟩, h1, h2⟩

/-- THE LAW: two ladders by even numbers do not hang on their order. -/
theorem xl_comm (u : F) (a b : List Bool) : xlF (xlF u (a ++ [false])) (b ++ [false]) = xlF (xlF u (b ++ [false])) (a ++ [false]) := by
  obtain ⟨e, d, G, hd, hf, hG, rfl⟩ := every_u u
  rw [xl_even hd hf hG, xl_even hd hf hG, xl_even hd hf (pmul_on hd hG _), xl_even hd hf (pmul_on hd hG _), pmul_mul hd hG, pmul_mul hd hG, Nat.mul_comm]
end MSE
