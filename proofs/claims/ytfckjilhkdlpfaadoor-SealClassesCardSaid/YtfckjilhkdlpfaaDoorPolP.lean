/-
  Numbers in five limbs of 26 bits, modulo 2^130 - 5: plain facts. No program stands in them.
-/
import Derived.Test.YtfckjilhkdlpfaaDoorWord
namespace MS

abbrev P130 : Nat := 1361129467683753853853498429727072845819
structure L5 where
  a : Nat
  b : Nat
  c : Nat
  d : Nat
  e : Nat
def L5.v (x : L5) : Nat := x.a + 67108864 * x.b + 4503599627370496 * x.c + 302231454903657293676544 * x.d + 20282409603651670423947251286016 * x.e
/-- A step of carry: what has come over from below. -/
def cov (x over : Nat) : Nat := (x + over) / 67108864
def crs (x over : Nat) : Nat := (x + over) % 67108864
def carL (x : L5) : L5 :=
  let o0 := cov x.a 0
  let o1 := cov x.b o0
  let o2 := cov x.c o1
  let o3 := cov x.d o2
  let o4 := cov x.e o3
  ⟨crs x.a 0 + 5 * o4, crs x.b o0, crs x.c o1, crs x.d o2, crs x.e o3⟩
theorem carL_v (x : L5) : ∃ k, (carL x).v + k * P130 = x.v := by
  refine ⟨cov x.e (cov x.d (cov x.c (cov x.b (cov x.a 0)))), ?_⟩
  simp only [carL, L5.v, cov, crs, P130]
  omega
theorem carL_mod (x : L5) : (carL x).v % P130 = x.v % P130 := by
  obtain ⟨k, h⟩ := carL_v x
  rw [← h, Nat.add_mul_mod_self_right]
theorem carL_lt (x : L5) (ha : x.a < 1152921504606846976) (hb : x.b < 1152921504606846976) (hc : x.c < 1152921504606846976) (hd : x.d < 1152921504606846976) (he : x.e < 1152921504606846976) :
    (carL x).a < 137438953472 ∧ (carL x).b < 67108864 ∧ (carL x).c < 67108864 ∧ (carL x).d < 67108864 ∧ (carL x).e < 67108864 := by
  simp only [carL, cov, crs]
  omega
/-- The product's five sums. -/
def mulD (h r : L5) : L5 :=
  ⟨h.a * r.a + 5 * (h.b * r.e + h.c * r.d + h.d * r.c + h.e * r.b),
   h.a * r.b + h.b * r.a + 5 * (h.c * r.e + h.d * r.d + h.e * r.c),
   h.a * r.c + h.b * r.b + h.c * r.a + 5 * (h.d * r.e + h.e * r.d),
   h.a * r.d + h.b * r.c + h.c * r.b + h.d * r.a + 5 * (h.e * r.e),
   h.a * r.e + h.b * r.d + h.c * r.c + h.d * r.b + h.e * r.a⟩
theorem mulD_mod (h r : L5) : (mulD h r).v % P130 = h.v * r.v % P130 := by
  have e : (mulD h r).v + (h.b * r.e + h.c * r.d + h.d * r.c + h.e * r.b + 67108864 * (h.c * r.e + h.d * r.d + h.e * r.c) + 4503599627370496 * (h.d * r.e + h.e * r.d) + 302231454903657293676544 * (h.e * r.e)) * P130 = h.v * r.v := by
    simp only [mulD, L5.v, P130]
    simp only [Nat.add_mul, Nat.mul_add]
    generalize h.a = a1
    generalize h.b = b1
    generalize h.c = c1
    generalize h.d = d1
    generalize h.e = e1
    generalize r.a = a2
    generalize r.b = b2
    generalize r.c = c2
    generalize r.d = d2
    generalize r.e = e2
    grind
  rw [← e, Nat.add_mul_mod_self_right]
/-- Bounds in and between the steps. -/
def L5.in28 (x : L5) : Prop := x.a < 268435456 ∧ x.b < 268435456 ∧ x.c < 268435456 ∧ x.d < 268435456 ∧ x.e < 268435456
def L5.in26 (x : L5) : Prop := x.a < 67108864 ∧ x.b < 67108864 ∧ x.c < 67108864 ∧ x.d < 67108864 ∧ x.e < 67108864
def L5.in27 (x : L5) : Prop := x.a < 67108864 ∧ x.b < 67110912 ∧ x.c < 67108864 ∧ x.d < 67108864 ∧ x.e < 67108864
/-- What mul returns. -/
def mulL (h r : L5) : L5 :=
  let d := carL (mulD h r)
  ⟨d.a % 67108864, d.b + d.a / 67108864, d.c, d.d, d.e⟩
theorem mul54 {x y : Nat} (hx : x < 268435456) (hy : y < 67108864) : x * y < 18014398509481984 :=
  Nat.lt_of_le_of_lt (Nat.mul_le_mul (Nat.le_of_lt_succ (show x < 268435455 + 1 from hx)) (Nat.le_of_lt_succ (show y < 67108863 + 1 from hy))) (by decide)
theorem mulD_lt {h r : L5} (hh : h.in28) (hr : r.in26) : (mulD h r).a < 1152921504606846976 ∧ (mulD h r).b < 1152921504606846976 ∧ (mulD h r).c < 1152921504606846976 ∧ (mulD h r).d < 1152921504606846976 ∧ (mulD h r).e < 1152921504606846976 := by
  obtain ⟨h0, h1, h2, h3, h4⟩ := hh
  obtain ⟨r0, r1, r2, r3, r4⟩ := hr
  have m : ∀ x y, x < 268435456 → y < 67108864 → x * y < 18014398509481984 := fun x y => mul54
  have := m _ _ h0 r0; have := m _ _ h0 r1; have := m _ _ h0 r2; have := m _ _ h0 r3; have := m _ _ h0 r4
  have := m _ _ h1 r0; have := m _ _ h1 r1; have := m _ _ h1 r2; have := m _ _ h1 r3; have := m _ _ h1 r4
  have := m _ _ h2 r0; have := m _ _ h2 r1; have := m _ _ h2 r2; have := m _ _ h2 r3; have := m _ _ h2 r4
  have := m _ _ h3 r0; have := m _ _ h3 r1; have := m _ _ h3 r2; have := m _ _ h3 r3; have := m _ _ h3 r4
  have := m _ _ h4 r0; have := m _ _ h4 r1; have := m _ _ h4 r2; have := m _ _ h4 r3; have := m _ _ h4 r4
  simp only [mulD]
  omega
theorem mulL_in {h r : L5} (hh : h.in28) (hr : r.in26) : (mulL h r).in27 := by
  obtain ⟨m0, m1, m2, m3, m4⟩ := mulD_lt hh hr
  obtain ⟨c0, c1, c2, c3, c4⟩ := carL_lt (mulD h r) m0 m1 m2 m3 m4
  unfold L5.in27 mulL
  simp only
  omega
theorem mulL_mod (h r : L5) : (mulL h r).v % P130 = h.v * r.v % P130 := by
  have e : (mulL h r).v = (carL (mulD h r)).v := by
    simp only [mulL, L5.v]
    omega
  rw [e, carL_mod, mulD_mod]
/-- The least one. -/
def twice5 (x : L5) : L5 := carL (carL x)
theorem twice5_in {x : L5} (h : x.in27) : (twice5 x).in26 := by
  obtain ⟨a, b, c, d, e⟩ := x
  obtain ⟨h0, h1, h2, h3, h4⟩ := h
  simp only at h0 h1 h2 h3 h4
  unfold L5.in26 twice5
  simp only [carL, cov, crs]
  omega
theorem twice5_mod (x : L5) : (twice5 x).v % P130 = x.v % P130 := by rw [twice5, carL_mod, carL_mod]
def plus5 (x : L5) : Nat × L5 :=
  let o0 := cov (x.a + 5) 0
  let o1 := cov x.b o0
  let o2 := cov x.c o1
  let o3 := cov x.d o2
  let o4 := cov x.e o3
  (o4, ⟨crs (x.a + 5) 0, crs x.b o0, crs x.c o1, crs x.d o2, crs x.e o3⟩)
def leastL (x : L5) : L5 := if 0 < (plus5 (twice5 x)).1 then (plus5 (twice5 x)).2 else twice5 x
theorem plus5_v (x : L5) : (plus5 x).2.v + (plus5 x).1 * 1361129467683753853853498429727072845824 = x.v + 5 := by
  simp only [plus5, L5.v, cov, crs]
  omega
theorem plus5_in (x : L5) : (plus5 x).2.in26 := by
  unfold L5.in26
  simp only [plus5, crs]
  omega
theorem in26_v {x : L5} (h : x.in26) : x.v < 1361129467683753853853498429727072845824 := by
  obtain ⟨h0, h1, h2, h3, h4⟩ := h
  unfold L5.v
  omega
theorem leastL_v {x : L5} (h : x.in27) : (leastL x).v = x.v % P130 := by
  have h1 := twice5_in h
  have h2 := in26_v h1
  have h3 := plus5_v (twice5 x)
  have h4 := in26_v (plus5_in (twice5 x))
  rw [← twice5_mod x]
  unfold leastL
  generalize twice5 x = y at *
  generalize (plus5 y).1 = o at *
  split
  · rename_i ho
    have ho1 : o = 1 := by omega
    subst ho1
    have e : y.v = (plus5 y).2.v + 1 * P130 := by unfold P130; omega
    rw [e, Nat.add_mul_mod_self_right, Nat.mod_eq_of_lt (by unfold P130; omega)]
  · rename_i ho
    have ho0 : o = 0 := by omega
    subst ho0
    rw [Nat.mod_eq_of_lt (by unfold P130; omega)]
theorem leastL_in {x : L5} (h : x.in27) : (leastL x).in26 := by
  unfold leastL
  split
  · exact plus5_in _
  · exact twice5_in h
end MS
