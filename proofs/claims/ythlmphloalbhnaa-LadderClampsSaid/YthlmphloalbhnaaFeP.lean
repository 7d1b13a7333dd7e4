namespace MS
abbrev Q' : Nat := 57896044618658097711785492504343953926634992332820282019728792003956564819949
/-- Five limbs of 51 bits. -/
structure N5 where
  a : Nat
  b : Nat
  c : Nat
  d : Nat
  e : Nat
def N5.v (x : N5) : Nat := x.a + 2251799813685248 * x.b + 5070602400912917605986812821504 * x.c + 11417981541647679048466287755595961091061972992 * x.d + 25711008708143844408671393477458601640355247900524685364822016 * x.e
/-- Any limbs of 64 bits. -/
def N5.ok (x : N5) : Prop := x.a < 18446744073709551616 ∧ x.b < 18446744073709551616 ∧ x.c < 18446744073709551616 ∧ x.d < 18446744073709551616 ∧ x.e < 18446744073709551616
/-- Narrow ones: each below 2^51 + 2^18. -/
def N5.nar (x : N5) : Prop := x.a < 2251799813947392 ∧ x.b < 2251799813947392 ∧ x.c < 2251799813947392 ∧ x.d < 2251799813947392 ∧ x.e < 2251799813947392
/-- Least ones: each below 2^51. -/
def N5.lst (x : N5) : Prop := x.a < 2251799813685248 ∧ x.b < 2251799813685248 ∧ x.c < 2251799813685248 ∧ x.d < 2251799813685248 ∧ x.e < 2251799813685248

def narrow (x : N5) : N5 :=
  ⟨x.a % 2251799813685248 + 19 * (x.e / 2251799813685248), x.b % 2251799813685248 + x.a / 2251799813685248, x.c % 2251799813685248 + x.b / 2251799813685248,
   x.d % 2251799813685248 + x.c / 2251799813685248, x.e % 2251799813685248 + x.d / 2251799813685248⟩
theorem narrow_nar {x : N5} (h : x.ok) : (narrow x).nar := by
  obtain ⟨h1, h2, h3, h4, h5⟩ := h
  refine ⟨?_, ?_, ?_, ?_, ?_⟩ <;> simp only [narrow] <;> omega
theorem narrow_v (x : N5) : (narrow x).v + x.e / 2251799813685248 * Q' = x.v := by
  obtain ⟨a, b, c, d, e⟩ := x
  simp only [narrow, N5.v, Q']
  omega
theorem narrow_mod (x : N5) : (narrow x).v % Q' = x.v % Q' := by
  rw [← narrow_v x, Nat.add_mul_mod_self_right]
theorem nar_ok {x : N5} (h : x.nar) : x.ok := by
  obtain ⟨h1, h2, h3, h4, h5⟩ := h
  exact ⟨by omega, by omega, by omega, by omega, by omega⟩

def over (x : N5) : Nat :=
  ((((( x.a + 19) / 2251799813685248 + x.b) / 2251799813685248 + x.c) / 2251799813685248 + x.d) / 2251799813685248 + x.e) / 2251799813685248
def carried (x : N5) (k : Nat) : N5 :=
  let s0 := x.a + k
  let s1 := x.b + s0 / 2251799813685248
  let s2 := x.c + s1 / 2251799813685248
  let s3 := x.d + s2 / 2251799813685248
  let s4 := x.e + s3 / 2251799813685248
  ⟨s0 % 2251799813685248, s1 % 2251799813685248, s2 % 2251799813685248, s3 % 2251799813685248, s4 % 2251799813685248⟩
def least (x : N5) : N5 := carried (narrow x) (19 * over (narrow x))
theorem carried_lst (x : N5) (k : Nat) : (carried x k).lst := by
  refine ⟨?_, ?_, ?_, ?_, ?_⟩ <;> simp only [carried] <;> exact Nat.mod_lt _ (by decide)
theorem carried_v (x : N5) (k : Nat) : (carried x k).v = (x.v + k) % 57896044618658097711785492504343953926634992332820282019728792003956564819968 := by
  obtain ⟨a, b, c, d, e⟩ := x
  simp only [carried, N5.v]
  omega
theorem over_v (x : N5) : over x = (x.v + 19) / 57896044618658097711785492504343953926634992332820282019728792003956564819968 := by
  obtain ⟨a, b, c, d, e⟩ := x
  simp only [over, N5.v]
  omega
theorem nar_v_lt {x : N5} (h : x.nar) : x.v < 2 * Q' := by
  obtain ⟨a, b, c, d, e⟩ := x
  obtain ⟨h1, h2, h3, h4, h5⟩ := h
  simp only at h1 h2 h3 h4 h5
  simp only [N5.v, Q']
  omega
theorem least_v {x : N5} (h : x.ok) : (least x).v = x.v % Q' := by
  have h1 := nar_v_lt (narrow_nar h)
  rw [← narrow_mod x, least, carried_v, over_v]
  generalize (narrow x).v = n at *
  simp only [Q'] at *
  by_cases hn : n < 57896044618658097711785492504343953926634992332820282019728792003956564819949
  · have e0 : (n + 19) / 57896044618658097711785492504343953926634992332820282019728792003956564819968 = 0 := by omega
    rw [e0]; omega
  · have e1 : (n + 19) / 57896044618658097711785492504343953926634992332820282019728792003956564819968 = 1 := by omega
    rw [e1]; omega
theorem least_lst (x : N5) : (least x).lst := carried_lst _ _

/-- Products: the five columns. -/
def col0 (x y : N5) : Nat := x.a * y.a + x.b * (y.e * 19) + x.c * (y.d * 19) + x.d * (y.c * 19) + x.e * (y.b * 19)
def col1 (x y : N5) : Nat := x.a * y.b + x.b * y.a + x.c * (y.e * 19) + x.d * (y.d * 19) + x.e * (y.c * 19)
def col2 (x y : N5) : Nat := x.a * y.c + x.b * y.b + x.c * y.a + x.d * (y.e * 19) + x.e * (y.d * 19)
def col3 (x y : N5) : Nat := x.a * y.d + x.b * y.c + x.c * y.b + x.d * y.a + x.e * (y.e * 19)
def col4 (x y : N5) : Nat := x.a * y.e + x.b * y.d + x.c * y.c + x.d * y.b + x.e * y.a
def folded (c0 c1 c2 c3 c4 : Nat) : N5 :=
  ⟨c0 % 2251799813685248 + 19 * (c4 / 2251799813685248), c1 % 2251799813685248 + c0 / 2251799813685248, c2 % 2251799813685248 + c1 / 2251799813685248,
   c3 % 2251799813685248 + c2 / 2251799813685248, c4 % 2251799813685248 + c3 / 2251799813685248⟩
def mulN (x y : N5) : N5 := folded (col0 x y) (col1 x y) (col2 x y) (col3 x y) (col4 x y)
def mul (x y : N5) : N5 := narrow (mulN (narrow x) (narrow y))

theorem prod_lt {x y : Nat} (hx : x < 2251799813947392) (hy : y < 42784196465000448) : x * y ≤ 96342447615577040000000000000000 := by
  have := Nat.mul_le_mul (Nat.le_of_lt_succ hx) (Nat.le_of_lt_succ hy)
  omega
theorem prod_lt19 {x y : Nat} (hx : x < 2251799813947392) (hy : y < 2251799813947392) : x * (y * 19) ≤ 96342447615577040000000000000000 := prod_lt hx (by omega)
theorem prod_lt1 {x y : Nat} (hx : x < 2251799813947392) (hy : y < 2251799813947392) : x * y ≤ 96342447615577040000000000000000 := prod_lt hx (by omega)
/-- Each column is below 2^109. -/
theorem cols_lt {x y : N5} (hx : x.nar) (hy : y.nar) :
    col0 x y < 649037107316853453566312041152512 ∧ col1 x y < 649037107316853453566312041152512 ∧ col2 x y < 649037107316853453566312041152512 ∧ col3 x y < 649037107316853453566312041152512 ∧ col4 x y < 649037107316853453566312041152512 := by
  obtain ⟨h1, h2, h3, h4, h5⟩ := hx
  obtain ⟨k1, k2, k3, k4, k5⟩ := hy
  unfold col0 col1 col2 col3 col4
  refine ⟨?_, ?_, ?_, ?_, ?_⟩
  · have := prod_lt1 h1 k1; have := prod_lt19 h2 k5; have := prod_lt19 h3 k4; have := prod_lt19 h4 k3; have := prod_lt19 h5 k2; omega
  · have := prod_lt1 h1 k2; have := prod_lt1 h2 k1; have := prod_lt19 h3 k5; have := prod_lt19 h4 k4; have := prod_lt19 h5 k3; omega
  · have := prod_lt1 h1 k3; have := prod_lt1 h2 k2; have := prod_lt1 h3 k1; have := prod_lt19 h4 k5; have := prod_lt19 h5 k4; omega
  · have := prod_lt1 h1 k4; have := prod_lt1 h2 k3; have := prod_lt1 h3 k2; have := prod_lt1 h4 k1; have := prod_lt19 h5 k5; omega
  · have := prod_lt1 h1 k5; have := prod_lt1 h2 k4; have := prod_lt1 h3 k3; have := prod_lt1 h4 k2; have := prod_lt1 h5 k1; omega
theorem folded_ok {c0 c1 c2 c3 c4 : Nat} (h0 : c0 < 649037107316853453566312041152512) (h1 : c1 < 649037107316853453566312041152512) (h2 : c2 < 649037107316853453566312041152512) (h3 : c3 < 649037107316853453566312041152512) (h4 : c4 < 649037107316853453566312041152512) :
    (folded c0 c1 c2 c3 c4).ok := by
  refine ⟨?_, ?_, ?_, ?_, ?_⟩ <;> simp only [folded] <;> omega
theorem folded_v (c0 c1 c2 c3 c4 : Nat) : (folded c0 c1 c2 c3 c4).v + c4 / 2251799813685248 * Q' = (⟨c0, c1, c2, c3, c4⟩ : N5).v := by
  simp only [folded, N5.v, Q']
  omega
theorem cols_v (x y : N5) : (⟨col0 x y, col1 x y, col2 x y, col3 x y, col4 x y⟩ : N5).v +
    Q' * (x.b * y.e + x.c * y.d + x.d * y.c + x.e * y.b + 2251799813685248 * (x.c * y.e + x.d * y.d + x.e * y.c) + 5070602400912917605986812821504 * (x.d * y.e + x.e * y.d) + 11417981541647679048466287755595961091061972992 * (x.e * y.e)) = x.v * y.v := by
  simp only [N5.v, col0, col1, col2, col3, col4, Q']
  grind
theorem mulN_mod (x y : N5) : (mulN x y).v % Q' = x.v * y.v % Q' := by
  rw [← cols_v x y, Nat.add_mul_mod_self_left, ← folded_v (col0 x y) (col1 x y) (col2 x y) (col3 x y) (col4 x y), Nat.add_mul_mod_self_right]
  rfl
theorem mulN_ok {x y : N5} (hx : x.nar) (hy : y.nar) : (mulN x y).ok := by
  obtain ⟨h0, h1, h2, h3, h4⟩ := cols_lt hx hy
  exact folded_ok h0 h1 h2 h3 h4
theorem mul_mod (x y : N5) : (mul x y).v % Q' = x.v * y.v % Q' := by
  rw [mul, narrow_mod, mulN_mod, Nat.mul_mod, narrow_mod, narrow_mod, ← Nat.mul_mod]
theorem mul_nar {x y : N5} (hx : x.ok) (hy : y.ok) : (mul x y).nar := narrow_nar (mulN_ok (narrow_nar hx) (narrow_nar hy))

def addN (x y : N5) : N5 := ⟨x.a + y.a, x.b + y.b, x.c + y.c, x.d + y.d, x.e + y.e⟩
def add (x y : N5) : N5 := narrow (addN (narrow x) (narrow y))
theorem addN_ok {x y : N5} (hx : x.nar) (hy : y.nar) : (addN x y).ok := by
  obtain ⟨h1, h2, h3, h4, h5⟩ := hx
  obtain ⟨k1, k2, k3, k4, k5⟩ := hy
  refine ⟨?_, ?_, ?_, ?_, ?_⟩ <;> simp only [addN] <;> omega
theorem add_mod (x y : N5) : (add x y).v % Q' = (x.v + y.v) % Q' := by
  have e : (addN (narrow x) (narrow y)).v = (narrow x).v + (narrow y).v := by simp only [N5.v, addN]; omega
  rw [add, narrow_mod, e, Nat.add_mod, narrow_mod, narrow_mod, ← Nat.add_mod]
theorem add_nar {x y : N5} (hx : x.ok) (hy : y.ok) : (add x y).nar := narrow_nar (addN_ok (narrow_nar hx) (narrow_nar hy))
/-- Twice the prime, less y. -/
def subN (x y : N5) : N5 := ⟨x.a + (4503599627370458 - y.a), x.b + (4503599627370494 - y.b), x.c + (4503599627370494 - y.c), x.d + (4503599627370494 - y.d), x.e + (4503599627370494 - y.e)⟩
def sub (x y : N5) : N5 := narrow (subN (narrow x) (narrow y))
theorem subN_ok {x y : N5} (hx : x.nar) : (subN x y).ok := by
  obtain ⟨h1, h2, h3, h4, h5⟩ := hx
  refine ⟨?_, ?_, ?_, ?_, ?_⟩ <;> simp only [subN] <;> omega
theorem subN_v {x y : N5} (hy : y.nar) : (subN x y).v + y.v = x.v + 2 * Q' := by
  obtain ⟨h1, h2, h3, h4, h5⟩ := hy
  obtain ⟨a, b, c, d, e⟩ := x
  obtain ⟨a', b', c', d', e'⟩ := y
  simp only [N5.v, subN, Q'] at *
  omega
theorem sub_mod {x y : N5} (hy : y.ok) : ((sub x y).v + y.v) % Q' = x.v % Q' := by
  have e := subN_v (x := narrow x) (narrow_nar hy)
  rw [Nat.add_mod, sub, narrow_mod, ← narrow_mod y, ← Nat.add_mod, e, Nat.add_mul_mod_self_right, narrow_mod]
theorem sub_nar {x y : N5} (hx : x.ok) : (sub x y).nar := narrow_nar (subN_ok (narrow_nar hx))
end MS
