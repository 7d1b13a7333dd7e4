/-
  Plain number theory: Fermat's little theorem, Pocklington's test, the prime 2^255 - 19.
-/
namespace MSE
/-! ### Plain number theory: Fermat's little theorem, Pocklington's test, the prime 2^255 - 19. -/

def IsPrime (p : Nat) : Prop := 2 ≤ p ∧ ∀ m, m ∣ p → m = 1 ∨ m = p

def prodL : List Nat → Nat
  | [] => 1
  | a :: l => a * prodL l

theorem prodL_perm {l1 l2 : List Nat} (h : l1.Perm l2) : prodL l1 = prodL l2 := by
  induction h with
  | nil => rfl
  | cons x _ ih => simp [prodL, ih]
  | swap x y l => simp [prodL, Nat.mul_left_comm]
  | trans _ _ ih1 ih2 => exact ih1.trans ih2

theorem perm_of_sub : ∀ (l1 l2 : List Nat), l1.Nodup → (∀ x, x ∈ l1 → x ∈ l2) → l2.length ≤ l1.length → l1.Perm l2
  | [], l2, _, _, hl => by
    have : l2 = [] := List.eq_nil_of_length_eq_zero (by simpa using hl)
    subst this; exact List.Perm.refl _
  | a :: t, l2, hn, hs, hl => by
    have ha : a ∈ l2 := hs a (by simp)
    have hp : l2.Perm (a :: l2.erase a) := List.perm_cons_erase ha
    have hn' := List.nodup_cons.1 hn
    refine List.Perm.trans (List.Perm.cons a ?_) hp.symm
    refine perm_of_sub t (l2.erase a) hn'.2 ?_ ?_
    · intro x hx
      have hxa : x ≠ a := by intro e; subst e; exact hn'.1 hx
      exact (List.mem_erase_of_ne hxa).2 (hs x (by simp [hx]))
    · rw [List.length_erase_of_mem ha]; simp at hl; omega

theorem prime_pos {p : Nat} (hp : IsPrime p) : 0 < p := by have := hp.1; omega

theorem prime_coprime {p a : Nat} (hp : IsPrime p) (ha : ¬ p ∣ a) : Nat.Coprime p a := by
  rcases hp.2 (Nat.gcd p a) (Nat.gcd_dvd_left p a) with h | h
  · exact h
  · exact absurd (h ▸ Nat.gcd_dvd_right p a) ha

theorem prime_dvd_mul {p a b : Nat} (hp : IsPrime p) (h : p ∣ a * b) : p ∣ a ∨ p ∣ b := by
  by_cases ha : p ∣ a
  · exact Or.inl ha
  · exact Or.inr ((prime_coprime hp ha).dvd_of_dvd_mul_left h)

theorem prodL_not_dvd {p : Nat} (hp : IsPrime p) : ∀ l : List Nat, (∀ x, x ∈ l → ¬ p ∣ x) → ¬ p ∣ prodL l
  | [], _ => by
    intro h
    have := Nat.le_of_dvd (by decide) h
    have := hp.1
    simp [prodL] at *
    omega
  | a :: l, h => by
    intro hd
    rcases prime_dvd_mul hp hd with h1 | h1
    · exact h a (by simp) h1
    · exact prodL_not_dvd hp l (fun x hx => h x (by simp [hx])) h1

theorem prodL_map_mod (a p : Nat) : ∀ l : List Nat, prodL (l.map fun i => a * i % p) % p = (a ^ l.length * prodL l) % p
  | [] => by simp [prodL]
  | b :: l => by
    have ih := prodL_map_mod a p l
    simp only [List.map_cons, prodL, List.length_cons, Nat.pow_succ]
    rw [Nat.mul_mod, Nat.mod_mod, ih, ← Nat.mul_mod]
    congr 1
    grind

/-- From 'x * c = y * c modulo p' and p prime, not dividing c. -/
theorem cancel_mod {p c x y : Nat} (hp : IsPrime p) (hc : ¬ p ∣ c) (h : (x * c) % p = (y * c) % p) : x % p = y % p := by
  have key : ∀ {u v : Nat}, v ≤ u → (u * c) % p = (v * c) % p → u % p = v % p := by
    intro u v hvu huv
    have hd : p ∣ (u - v) * c := by
      rw [Nat.sub_mul]
      exact Nat.dvd_of_mod_eq_zero (Nat.sub_mod_eq_zero_of_mod_eq huv)
    rcases prime_dvd_mul hp hd with h1 | h1
    · obtain ⟨t, ht⟩ := h1
      rw [show u = v + p * t by omega, Nat.add_mul_mod_self_left]
    · exact absurd h1 hc
  rcases Nat.le_total y x with hle | hle
  · exact key hle h
  · exact (key hle h.symm).symm

theorem fermat {p a : Nat} (hp : IsPrime p) (ha : ¬ p ∣ a) : a ^ (p - 1) % p = 1 := by
  have h2 := hp.1
  let L := List.range' 1 (p - 1)
  have hL : L.Nodup := List.nodup_range'
  have hmem : ∀ x, x ∈ L ↔ 1 ≤ x ∧ x < p := by
    intro x; simp only [L, List.mem_range'_1]; omega
  have hnd : ∀ x, x ∈ L → ¬ p ∣ x := by
    intro x hx hd
    have := Nat.le_of_dvd (by have := (hmem x).1 hx; omega) hd
    have := (hmem x).1 hx; omega
  have hperm : (L.map fun i => a * i % p).Perm L := by
    refine perm_of_sub _ _ ?_ ?_ (by simp)
    · rw [List.nodup_iff_pairwise_ne, List.pairwise_map]
      refine List.Pairwise.imp_of_mem ?_ (List.nodup_iff_pairwise_ne.1 hL)
      intro x y hx hy hne he
      have hxy : x % p = y % p := by
        refine cancel_mod hp ha ?_
        rw [Nat.mul_comm x, Nat.mul_comm y]; exact he
      rw [Nat.mod_eq_of_lt ((hmem x).1 hx).2, Nat.mod_eq_of_lt ((hmem y).1 hy).2] at hxy
      exact hne hxy
    · intro x hx
      obtain ⟨i, hi, rfl⟩ := List.mem_map.1 hx
      refine (hmem _).2 ⟨?_, Nat.mod_lt _ (by omega)⟩
      rcases Nat.eq_zero_or_pos (a * i % p) with h0 | h0
      · rcases prime_dvd_mul hp (Nat.dvd_of_mod_eq_zero h0) with h | h
        · exact absurd h ha
        · exact absurd h (hnd i hi)
      · exact h0
  have h := prodL_map_mod a p L
  rw [prodL_perm hperm] at h
  have hlen : L.length = p - 1 := by simp [L]
  rw [hlen] at h
  have hc := cancel_mod (x := 1) (y := a ^ (p - 1)) hp (prodL_not_dvd hp L hnd) (by simpa using h)
  rw [← hc]; exact Nat.mod_eq_of_lt (by omega)

theorem pow_mod_mul {a p m k : Nat} (h : a ^ m % p = 1 % p) : a ^ (m * k) % p = 1 % p := by
  rw [Nat.pow_mul, Nat.pow_mod, h, ← Nat.pow_mod, Nat.one_pow]

theorem pow_gcd {a p : Nat} : ∀ m n : Nat, a ^ m % p = 1 % p → a ^ n % p = 1 % p → a ^ (Nat.gcd m n) % p = 1 % p := by
  intro m n
  induction m, n using Nat.gcd.induction with
  | H0 n => intro _ h; simpa using h
  | H1 m n hm ih =>
    intro h1 h2
    rw [Nat.gcd_rec]
    refine ih ?_ h1
    have e : n = m * (n / m) + n % m := (Nat.div_add_mod n m).symm
    rw [e, Nat.pow_add, Nat.mul_mod, pow_mod_mul h1, ← Nat.mul_mod, Nat.one_mul] at h2
    exact h2

/-- A number above 1 has a prime divisor; a number that is no prime has one whose square is not above it. -/
theorem small_prime {N : Nat} (h2 : 2 ≤ N) (hn : ¬ IsPrime N) : ∃ r, IsPrime r ∧ r ∣ N ∧ r * r ≤ N := by
  have hex : ∃ m, 2 ≤ m ∧ m ∣ N ∧ m * m ≤ N := by
    have : ¬ ∀ m, m ∣ N → m = 1 ∨ m = N := fun h => hn ⟨h2, h⟩
    obtain ⟨m, hm⟩ := Classical.not_forall.1 this
    have hd : m ∣ N := Classical.not_not.1 fun h => hm fun h' => absurd h' h
    have h1 : m ≠ 1 ∧ m ≠ N := ⟨fun h => hm fun _ => Or.inl h, fun h => hm fun _ => Or.inr h⟩
    obtain ⟨k, hk⟩ := hd
    have hm0 : m ≠ 0 := by rintro rfl; simp at hk; omega
    have hk0 : k ≠ 0 := by rintro rfl; simp at hk; omega
    have hk1 : k ≠ 1 := by rintro rfl; simp at hk; exact h1.2 hk.symm
    rcases Nat.le_total m k with h | h
    · exact ⟨m, by omega, ⟨k, hk⟩, by rw [hk]; exact Nat.mul_le_mul_left m h⟩
    · exact ⟨k, by omega, ⟨m, by rw [hk, Nat.mul_comm]⟩, by rw [hk]; exact Nat.mul_le_mul_right k h⟩
  -- the least such number is prime
  have hmin : ∀ n, (∃ m, m ≤ n ∧ 2 ≤ m ∧ m ∣ N ∧ m * m ≤ N) → ∃ r, IsPrime r ∧ r ∣ N ∧ r * r ≤ N := by
    intro n
    induction n with
    | zero => rintro ⟨m, h0, h2, _⟩; omega
    | succ n ih =>
      rintro ⟨m, hmn, hm2, hmd, hmm⟩
      by_cases hp : IsPrime m
      · exact ⟨m, hp, hmd, hmm⟩
      · have : ¬ ∀ k, k ∣ m → k = 1 ∨ k = m := fun h => hp ⟨hm2, h⟩
        obtain ⟨k, hk⟩ := Classical.not_forall.1 this
        have hd : k ∣ m := Classical.not_not.1 fun h => hk fun h' => absurd h' h
        have h1 : k ≠ 1 ∧ k ≠ m := ⟨fun h => hk fun _ => Or.inl h, fun h => hk fun _ => Or.inr h⟩
        have hle : k ≤ m := Nat.le_of_dvd (by omega) hd
        have hk0 : k ≠ 0 := by rintro rfl; have := Nat.eq_zero_of_zero_dvd hd; omega
        exact ih ⟨k, by omega, by omega, Nat.dvd_trans hd hmd, Nat.le_trans (Nat.mul_le_mul hle hle) hmm⟩
  obtain ⟨m, h⟩ := hex
  exact hmin m ⟨m, Nat.le_refl _, h⟩

/-- One prime of Pocklington's: it divides r - 1 for every prime divisor r of N. -/
theorem pock_step {N q a r : Nat} (hq : IsPrime q) (hqN : q ∣ N - 1) (ha : a ^ (N - 1) % N = 1) (hg : Nat.gcd (a ^ ((N - 1) / q) + (N - 1)) N = 1)
    (hN : 2 ≤ N) (hr : IsPrime r) (hrN : r ∣ N) : q ∣ r - 1 := by
  have hr2 := hr.1
  have h1 : (1 : Nat) % r = 1 := Nat.mod_eq_of_lt (by omega)
  have har : a ^ (N - 1) % r = 1 % r := by
    have : a ^ (N - 1) % N % r = a ^ (N - 1) % r := Nat.mod_mod_of_dvd _ hrN
    rw [← this, ha]
  refine Classical.byContradiction fun hnd => ?_
  generalize hb : a ^ ((N - 1) / q) = b at hg
  have hbq : b ^ q % r = 1 % r := by
    rw [← hb, ← Nat.pow_mul, Nat.div_mul_cancel hqN]; exact har
  have hrb : ¬ r ∣ b := by
    intro hd
    have : b ^ q % r = 0 := by
      obtain ⟨c, rfl⟩ := hd
      have hq1 := hq.1
      rw [show q = (q - 1) + 1 by omega, Nat.pow_succ]
      rw [show (r * c) ^ (q - 1) * (r * c) = r * ((r * c) ^ (q - 1) * c) by grind]
      exact Nat.mul_mod_right _ _
    omega
  have hf : b ^ (r - 1) % r = 1 % r := by rw [fermat hr hrb, h1]
  have hgcd : Nat.gcd q (r - 1) = 1 := prime_coprime hq hnd
  have hb1 := pow_gcd q (r - 1) hbq hf
  rw [hgcd, Nat.pow_one, h1] at hb1
  have hd : r ∣ b + (N - 1) := by
    have hN0 : N % r = 0 := Nat.mod_eq_zero_of_dvd hrN
    refine Nat.dvd_of_mod_eq_zero ?_
    have e : b + (N - 1) = (b - 1) + N := by
      have : 1 ≤ b := by
        rcases Nat.eq_zero_or_pos b with h | h
        · subst h; simp at hb1
        · exact h
      omega
    have hb' : (b - 1) % r = 0 := by
      have hb0 : b = r * (b / r) + 1 := by rw [← hb1]; exact (Nat.div_add_mod b r).symm
      rw [hb0, Nat.add_sub_cancel]; exact Nat.mul_mod_right _ _
    rw [e, Nat.add_mod, hb', hN0]; simp
  have : r ∣ Nat.gcd (b + (N - 1)) N := Nat.dvd_gcd hd hrN
  rw [hg] at this
  have := Nat.le_of_dvd (by decide) this
  omega

/-- a ^ n modulo m, by squaring. -/
def modpow (a n m : Nat) : Nat → Nat
  | 0 => 1 % m
  | k + 1 => if n = 0 then 1 % m else
    let h := modpow a (n / 2) m k
    if n % 2 = 1 then h * h % m * a % m else h * h % m

theorem modpow_eq (a m : Nat) : ∀ (k n : Nat), n < 2 ^ k → modpow a n m k = a ^ n % m
  | 0, n, h => by
    have : n = 0 := by simpa using h
    subst this; simp [modpow]
  | k + 1, n, h => by
    unfold modpow
    split
    · subst_vars; simp
    · have ih := modpow_eq a m k (n / 2) (by rw [Nat.pow_succ] at h; omega)
      simp only [ih]
      have hsq : a ^ (n / 2) % m * (a ^ (n / 2) % m) % m = a ^ (n / 2 + n / 2) % m := by rw [← Nat.mul_mod, ← Nat.pow_add]
      split
      · rename_i h1
        rw [hsq, Nat.mod_mul_mod, ← Nat.pow_succ]; congr 2; omega
      · rw [hsq]; congr 2; omega

/-- Pocklington, over a list of primes with their witnesses: the product of the primes is above the root of N. -/
theorem pock (N : Nat) (qs : List (Nat × Nat)) (hN : 2 ≤ N)
    (hq : ∀ qa, qa ∈ qs → IsPrime qa.1 ∧ qa.1 ∣ N - 1 ∧ qa.2 ^ (N - 1) % N = 1 ∧ Nat.gcd (qa.2 ^ ((N - 1) / qa.1) + (N - 1)) N = 1)
    (hco : qs.Pairwise fun x y => Nat.Coprime x.1 y.1)
    (hF : N ≤ prodL (qs.map Prod.fst) * prodL (qs.map Prod.fst)) : IsPrime N := by
  refine Classical.byContradiction fun hn => ?_
  obtain ⟨r, hr, hrN, hrr⟩ := small_prime hN hn
  have hdvd : ∀ l : List (Nat × Nat), (∀ qa, qa ∈ l → qa ∈ qs) → l.Pairwise (fun x y => Nat.Coprime x.1 y.1) → prodL (l.map Prod.fst) ∣ r - 1 := by
    intro l
    induction l with
    | nil => intro _ _; simp [prodL]
    | cons x l ih =>
      intro hs hp
      rw [List.pairwise_cons] at hp
      have h1 := ih (fun y hy => hs y (by simp [hy])) hp.2
      obtain ⟨hx1, hx2, hx3, hx4⟩ := hq x (hs x (by simp))
      have h2 : x.1 ∣ r - 1 := pock_step hx1 hx2 hx3 hx4 hN hr hrN
      have hc : Nat.Coprime x.1 (prodL (l.map Prod.fst)) := by
        have : ∀ t : List (Nat × Nat), (∀ y, y ∈ t → Nat.Coprime x.1 y.1) → Nat.Coprime x.1 (prodL (t.map Prod.fst)) := by
          intro t
          induction t with
          | nil => intro _; simp [prodL]
          | cons y t iht => intro h; exact Nat.Coprime.mul_right (h y (by simp)) (iht fun z hz => h z (by simp [hz]))
        exact this l hp.1
      exact hc.mul_dvd_of_dvd_of_dvd h2 h1
  have hd := hdvd qs (fun _ h => h) hco
  have hr2 := hr.1
  have hle : prodL (qs.map Prod.fst) ≤ r - 1 := Nat.le_of_dvd (by omega) hd
  have : prodL (qs.map Prod.fst) * prodL (qs.map Prod.fst) ≤ (r - 1) * (r - 1) := Nat.mul_le_mul hle hle
  have h3 : (r - 1) * (r - 1) < r * r := Nat.mul_lt_mul_of_lt_of_lt (by omega) (by omega)
  omega

/-- By trial: n is prime when nothing from 2 to its root divides it. -/
def noDiv (n : Nat) : Nat → Bool
  | 0 => true
  | k + 1 => (k + 1 < 2 || n % (k + 1) != 0) && noDiv n k
theorem noDiv_spec (n : Nat) : ∀ k, noDiv n k = true → ∀ m, 2 ≤ m → m ≤ k → ¬ m ∣ n
  | 0, _, m, h2, hk => by omega
  | k + 1, h, m, h2, hk => by
    simp only [noDiv, Bool.and_eq_true, Bool.or_eq_true, decide_eq_true_eq, bne_iff_ne] at h
    rcases Nat.lt_or_ge m (k + 1) with hlt | hge
    · exact noDiv_spec n k h.2 m h2 (by omega)
    · have : m = k + 1 := by omega
      subst this
      rcases h.1 with h1 | h1
      · omega
      · intro hd; exact h1 (Nat.mod_eq_zero_of_dvd hd)
theorem prime_trial (n k : Nat) (h2 : 2 ≤ n) (hk : n < (k + 1) * (k + 1)) (h : noDiv n k = true) : IsPrime n := by
  refine Classical.byContradiction fun hn => ?_
  obtain ⟨r, hr, hrn, hrr⟩ := small_prime h2 hn
  have := hr.1
  refine noDiv_spec n k h r hr.1 ?_ hrn
  refine Classical.byContradiction fun hlt => ?_
  have : (k + 1) * (k + 1) ≤ r * r := Nat.mul_le_mul (by omega) (by omega)
  omega

/-- What a Pocklington step asks, by reckoning. -/
def pockOk (N q a k : Nat) : Bool :=
  (N - 1) % q == 0 && modpow a (N - 1) N k == 1 && Nat.gcd (modpow a ((N - 1) / q) N k + (N - 1)) N == 1 && decide (N - 1 < 2 ^ k)
theorem pockOk_spec {N q a k : Nat} (h : pockOk N q a k = true) :
    q ∣ N - 1 ∧ a ^ (N - 1) % N = 1 ∧ Nat.gcd (a ^ ((N - 1) / q) + (N - 1)) N = 1 := by
  simp only [pockOk, Bool.and_eq_true, beq_iff_eq, decide_eq_true_eq] at h
  obtain ⟨⟨⟨h1, h2⟩, h3⟩, h4⟩ := h
  have h5 : (N - 1) / q < 2 ^ k := Nat.lt_of_le_of_lt (Nat.div_le_self _ _) h4
  rw [modpow_eq a N k _ h4] at h2
  rw [modpow_eq a N k _ h5] at h3
  refine ⟨Nat.dvd_of_mod_eq_zero h1, h2, ?_⟩
  have key : ∀ x y : Nat, Nat.gcd (x % N + y) N = Nat.gcd (x + y) N := by
    intro x y
    rw [Nat.gcd_comm, Nat.gcd_comm _ N, Nat.gcd_rec N (x + y), Nat.gcd_rec N (x % N + y), Nat.mod_add_mod]
  rw [← key]; exact h3

theorem pock1 {N q a k : Nat} (hN : 2 ≤ N) (hq : IsPrime q) (h : pockOk N q a k = true) (hF : N ≤ q * q) : IsPrime N := by
  refine pock N [(q, a)] hN ?_ (by simp) (by simpa [prodL] using hF)
  intro qa hqa
  obtain rfl : qa = (q, a) := by simpa using hqa
  exact ⟨hq, pockOk_spec h⟩
theorem pock2 {N q a q' a' k : Nat} (hN : 2 ≤ N) (hq : IsPrime q) (hq' : IsPrime q') (hne : q' ≠ q) (h : pockOk N q a k = true) (h' : pockOk N q' a' k = true)
    (hF : N ≤ (q * q') * (q * q')) : IsPrime N := by
  refine pock N [(q, a), (q', a')] hN ?_ ?_ (by simpa [prodL] using hF)
  · intro qa hqa
    rcases (by simpa using hqa : qa = (q, a) ∨ qa = (q', a')) with rfl | rfl
    · exact ⟨hq, pockOk_spec h⟩
    · exact ⟨hq', pockOk_spec h'⟩
  · simp only [List.pairwise_cons, List.mem_singleton, forall_eq, List.not_mem_nil, false_implies, implies_true, List.Pairwise.nil, and_true]
    refine prime_coprime hq ?_
    intro hd
    have := hq.1
    rcases hq'.2 q hd with h1 | h1
    · omega
    · exact hne h1.symm
theorem prime_430751 : IsPrime 430751 := prime_trial 430751 656 (by decide) (by decide) (by decide +kernel)
theorem prime_4153 : IsPrime 4153 := prime_trial 4153 64 (by decide) (by decide) (by decide +kernel)
theorem prime_75707 : IsPrime 75707 := prime_trial 75707 275 (by decide) (by decide) (by decide +kernel)
theorem prime_8574133 : IsPrime 8574133 := prime_trial 8574133 2928 (by decide) (by decide) (by decide +kernel)
theorem prime_127 : IsPrime 127 := prime_trial 127 11 (by decide) (by decide) (by decide +kernel)
theorem prime_31757755568855353 : IsPrime 31757755568855353 := pock2 (q := 430751) (a := 2) (q' := 4153) (a' := 2) (k := 55) (by decide) prime_430751 prime_4153 (by decide) (by decide +kernel) (by decide +kernel) (by decide)
theorem prime_1919519569386763 : IsPrime 1919519569386763 := pock2 (q := 8574133) (a := 2) (q' := 127) (a' := 2) (k := 51) (by decide) prime_8574133 prime_127 (by decide) (by decide +kernel) (by decide +kernel) (by decide)
theorem prime_75445702479781427272750846543864801 : IsPrime 75445702479781427272750846543864801 := pock2 (q := 1919519569386763) (a := 2) (q' := 75707) (a' := 2) (k := 116) (by decide) prime_1919519569386763 prime_75707 (by decide) (by decide +kernel) (by decide +kernel) (by decide)
theorem prime_74058212732561358302231226437062788676166966415465897661863160754340907 : IsPrime 74058212732561358302231226437062788676166966415465897661863160754340907 := pock2 (q := 75445702479781427272750846543864801) (a := 2) (q' := 31757755568855353) (a' := 2) (k := 236) (by decide) prime_75445702479781427272750846543864801 prime_31757755568855353 (by decide) (by decide +kernel) (by decide +kernel) (by decide)
theorem prime25519 : IsPrime 57896044618658097711785492504343953926634992332820282019728792003956564819949 := pock1 (q := 74058212732561358302231226437062788676166966415465897661863160754340907) (a := 2) (k := 255) (by decide) prime_74058212732561358302231226437062788676166966415465897661863160754340907 (by decide +kernel) (by decide)
end MSE
