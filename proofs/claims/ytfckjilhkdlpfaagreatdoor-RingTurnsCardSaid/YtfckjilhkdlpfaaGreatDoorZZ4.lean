/-
  Texts of this seat, put together (what is needed of them): EcNt, EcE, LdA, Held, Two, LdB, LdD, LdE, LdF, Makes.
-/
import Derived.Test.YtfckjilhkdlpfaaGreatDoorZZ3
import Derived.Laws.Rows
import Derived.Deep.RegionWith

namespace MSE
/-! ### Plain number theory: Fermat's little theorem, Pocklington's test, the prime 2^255 - 19. -/
def IsPrime (p : Nat) : Prop := 2 ≤ p ∧ ∀ m, m ∣ p → m = 1 ∨ m = p

def prodL : List Nat → Nat
  | [] => 1
  | a :: l => a * prodL l

theorem prodL_perm {l1 l2 : List Nat} (h : l1.Perm l2) : prodL l1 = prodL l2 := by
  induction h with
  | nil => rfl
  | cons x _ ih => simp [prodL, ih]
  | swap x y l => simp [prodL, Nat.mul_left_comm]
  | trans _ _ ih1 ih2 => exact ih1.trans ih2

theorem perm_of_sub : ∀ (l1 l2 : List Nat), l1.Nodup → (∀ x, x ∈ l1 → x ∈ l2) → l2.length ≤ l1.length → l1.Perm l2
  | [], l2, _, _, hl => by
    have : l2 = [] := List.eq_nil_of_length_eq_zero (by simpa using hl)
    subst this; exact List.Perm.refl _
  | a :: t, l2, hn, hs, hl => by
    have ha : a ∈ l2 := hs a (by simp)
    have hp : l2.Perm (a :: l2.erase a) := List.perm_cons_erase ha
    have hn' := List.nodup_cons.1 hn
    refine List.Perm.trans (List.Perm.cons a ?_) hp.symm
    refine perm_of_sub t (l2.erase a) hn'.2 ?_ ?_
    · intro x hx
      have hxa : x ≠ a := by intro e; subst e; exact hn'.1 hx
      exact (List.mem_erase_of_ne hxa).2 (hs x (by simp [hx]))
    · rw [List.length_erase_of_mem ha]; simp at hl; omega

theorem prime_coprime {p a : Nat} (hp : IsPrime p) (ha : ¬ p ∣ a) : Nat.Coprime p a := by
  rcases hp.2 (Nat.gcd p a) (Nat.gcd_dvd_left p a) with h | h
  · exact h
  · exact absurd (h ▸ Nat.gcd_dvd_right p a) ha

theorem prime_dvd_mul {p a b : Nat} (hp : IsPrime p) (h : p ∣ a * b) : p ∣ a ∨ p ∣ b := by
  by_cases ha : p ∣ a
  · exact Or.inl ha
  · exact Or.inr ((prime_coprime hp ha).dvd_of_dvd_mul_left h)

theorem prodL_not_dvd {p : Nat} (hp : IsPrime p) : ∀ l : List Nat, (∀ x, x ∈ l → ¬ p ∣ x) → ¬ p ∣ prodL l
  | [], _ => by
    intro h
    have := Nat.le_of_dvd (by decide) h
    have := hp.1
    simp [prodL] at *
    omega
  | a :: l, h => by
    intro hd
    rcases prime_dvd_mul hp hd with h1 | h1
    · exact h a (by simp) h1
    · exact prodL_not_dvd hp l (fun x hx => h x (by simp [hx])) h1

theorem prodL_map_mod (a p : Nat) : ∀ l : List Nat, prodL (l.map fun i => a * i % p) % p = (a ^ l.length * prodL l) % p
  | [] => by simp [prodL]
  | b :: l => by
    have ih := prodL_map_mod a p l
    simp only [List.map_cons, prodL, List.length_cons, Nat.pow_succ]
    rw [Nat.mul_mod, Nat.mod_mod, ih, ← Nat.mul_mod]
    congr 1
    grind

/-- From 'x * c = y * c modulo p' and p prime, not dividing c. -/
theorem cancel_mod {p c x y : Nat} (hp : IsPrime p) (hc : ¬ p ∣ c) (h : (x * c) % p = (y * c) % p) : x % p = y % p := by
  have key : ∀ {u v : Nat}, v ≤ u → (u * c) % p = (v * c) % p → u % p = v % p := by
    intro u v hvu huv
    have hd : p ∣ (u - v) * c := by
      rw [Nat.sub_mul]
      exact Nat.dvd_of_mod_eq_zero (Nat.sub_mod_eq_zero_of_mod_eq huv)
    rcases prime_dvd_mul hp hd with h1 | h1
    · obtain ⟨t, ht⟩ := h1
      rw [show u = v + p * t by omega, Nat.add_mul_mod_self_left]
    · exact absurd h1 hc
  rcases Nat.le_total y x with hle | hle
  · exact key hle h
  · exact (key hle h.symm).symm

theorem fermat {p a : Nat} (hp : IsPrime p) (ha : ¬ p ∣ a) : a ^ (p - 1) % p = 1 := by
  have h2 := hp.1
  let L := List.range' 1 (p - 1)
  have hL : L.Nodup := List.nodup_range'
  have hmem : ∀ x, x ∈ L ↔ 1 ≤ x ∧ x < p := by
    intro x; simp only [L, List.mem_range'_1]; omega
  have hnd : ∀ x, x ∈ L → ¬ p ∣ x := by
    intro x hx hd
    have := Nat.le_of_dvd (by have := (hmem x).1 hx; omega) hd
    have := (hmem x).1 hx; omega
  have hperm : (L.map fun i => a * i % p).Perm L := by
    refine perm_of_sub _ _ ?_ ?_ (by simp)
    · rw [List.nodup_iff_pairwise_ne, List.pairwise_map]
      refine List.Pairwise.imp_of_mem ?_ (List.nodup_iff_pairwise_ne.1 hL)
      intro x y hx hy hne he
      have hxy : x % p = y % p := by
        refine cancel_mod hp ha ?_
        rw [Nat.mul_comm x, Nat.mul_comm y]; exact he
      rw [Nat.mod_eq_of_lt ((hmem x).1 hx).2, Nat.mod_eq_of_lt ((hmem y).1 hy).2] at hxy
      exact hne hxy
    · intro x hx
      obtain ⟨i, hi, rfl⟩ := List.mem_map.1 hx
      refine (hmem _).2 ⟨?_, Nat.mod_lt _ (by omega)⟩
      rcases Nat.eq_zero_or_pos (a * i % p) with h0 | h0
      · rcases prime_dvd_mul hp (Nat.dvd_of_mod_eq_zero h0) with h | h
        · exact absurd h ha
        · exact absurd h (hnd i hi)
      · exact h0
  have h := prodL_map_mod a p L
  rw [prodL_perm hperm] at h
  have hlen : L.length = p - 1 := by simp [L]
  rw [hlen] at h
  have hc := cancel_mod (x := 1) (y := a ^ (p - 1)) hp (prodL_not_dvd hp L hnd) (by simpa using h)
  rw [← hc]; exact Nat.mod_eq_of_lt (by omega)

theorem pow_mod_mul {a p m k : Nat} (h : a ^ m % p = 1 % p) : a ^ (m * k) % p = 1 % p := by
  rw [Nat.pow_mul, Nat.pow_mod, h, ← Nat.pow_mod, Nat.one_pow]

theorem pow_gcd {a p : Nat} : ∀ m n : Nat, a ^ m % p = 1 % p → a ^ n % p = 1 % p → a ^ (Nat.gcd m n) % p = 1 % p := by
  intro m n
  induction m, n using Nat.gcd.induction with
  | H0 n => intro _ h; simpa using h
  | H1 m n hm ih =>
    intro h1 h2
    rw [Nat.gcd_rec]
    refine ih ?_ h1
    have e : n = m * (n / m) + n % m := (Nat.div_add_mod n m).symm
    rw [e, Nat.pow_add, Nat.mul_mod, pow_mod_mul h1, ← Nat.mul_mod, Nat.one_mul] at h2
    exact h2

/-- A number above 1 has a prime divisor; a number that is no prime has one whose square is not above it. -/
theorem small_prime {N : Nat} (h2 : 2 ≤ N) (hn : ¬ IsPrime N) : ∃ r, IsPrime r ∧ r ∣ N ∧ r * r ≤ N := by
  have hex : ∃ m, 2 ≤ m ∧ m ∣ N ∧ m * m ≤ N := by
    have : ¬ ∀ m, m ∣ N → m = 1 ∨ m = N := fun h => hn ⟨h2, h⟩
    obtain ⟨m, hm⟩ := Classical.not_forall.1 this
    have hd : m ∣ N := Classical.not_not.1 fun h => hm fun h' => absurd h' h
    have h1 : m ≠ 1 ∧ m ≠ N := ⟨fun h => hm fun _ => Or.inl h, fun h => hm fun _ => Or.inr h⟩
    obtain ⟨k, hk⟩ := hd
    have hm0 : m ≠ 0 := by rintro rfl; simp at hk; omega
    have hk0 : k ≠ 0 := by rintro rfl; simp at hk; omega
    have hk1 : k ≠ 1 := by rintro rfl; simp at hk; exact h1.2 hk.symm
    rcases Nat.le_total m k with h | h
    · exact ⟨m, by omega, ⟨k, hk⟩, by rw [hk]; exact Nat.mul_le_mul_left m h⟩
    · exact ⟨k, by omega, ⟨m, by rw [hk, Nat.mul_comm]⟩, by rw [hk]; exact Nat.mul_le_mul_right k h⟩
  -- the least such number is prime
  have hmin : ∀ n, (∃ m, m ≤ n ∧ 2 ≤ m ∧ m ∣ N ∧ m * m ≤ N) → ∃ r, IsPrime r ∧ r ∣ N ∧ r * r ≤ N := by
    intro n
    induction n with
    | zero => rintro ⟨m, h0, h2, _⟩; omega
    | succ n ih =>
      rintro ⟨m, hmn, hm2, hmd, hmm⟩
      by_cases hp : IsPrime m
      · exact ⟨m, hp, hmd, hmm⟩
      · have : ¬ ∀ k, k ∣ m → k = 1 ∨ k = m := fun h => hp ⟨hm2, h⟩
        obtain ⟨k, hk⟩ := Classical.not_forall.1 this
        have hd : k ∣ m := Classical.not_not.1 fun h => hk fun h' => absurd h' h
        have h1 : k ≠ 1 ∧ k ≠ m := ⟨fun h => hk fun _ => Or.inl h, fun h => hk fun _ => Or.inr h⟩
        have hle : k ≤ m := Nat.le_of_dvd (by omega) hd
        have hk0 : k ≠ 0 := by rintro rfl; have := Nat.eq_zero_of_zero_dvd hd; omega
        exact ih ⟨k, by omega, by omega, Nat.dvd_trans hd hmd, Nat.le_trans (Nat.mul_le_mul hle hle) hmm⟩
  obtain ⟨m, h⟩ := hex
  exact hmin m ⟨m, Nat.le_refl _, h⟩

/-- One prime of Pocklington's: it divides r - 1 for every prime divisor r of N. -/
theorem pock_step {N q a r : Nat} (hq : IsPrime q) (hqN : q ∣ N - 1) (ha : a ^ (N - 1) % N = 1) (hg : Nat.gcd (a ^ ((N - 1) / q) + (N - 1)) N = 1)
    (hN : 2 ≤ N) (hr : IsPrime r) (hrN : r ∣ N) : q ∣ r - 1 := by
  have hr2 := hr.1
  have h1 : (1 : Nat) % r = 1 := Nat.mod_eq_of_lt (by omega)
  have har : a ^ (N - 1) % r = 1 % r := by
    have : a ^ (N - 1) % N % r = a ^ (N - 1) % r := Nat.mod_mod_of_dvd _ hrN
    rw [← this, ha]
  refine Classical.byContradiction fun hnd => ?_
  generalize hb : a ^ ((N - 1) / q) = b at hg
  have hbq : b ^ q % r = 1 % r := by
    rw [← hb, ← Nat.pow_mul, Nat.div_mul_cancel hqN]; exact har
  have hrb : ¬ r ∣ b := by
    intro hd
    have : b ^ q % r = 0 := by
      obtain ⟨c, rfl⟩ := hd
      have hq1 := hq.1
      rw [show q = (q - 1) + 1 by omega, Nat.pow_succ]
      rw [show (r * c) ^ (q - 1) * (r * c) = r * ((r * c) ^ (q - 1) * c) by grind]
      exact Nat.mul_mod_right _ _
    omega
  have hf : b ^ (r - 1) % r = 1 % r := by rw [fermat hr hrb, h1]
  have hgcd : Nat.gcd q (r - 1) = 1 := prime_coprime hq hnd
  have hb1 := pow_gcd q (r - 1) hbq hf
  rw [hgcd, Nat.pow_one, h1] at hb1
  have hd : r ∣ b + (N - 1) := by
    have hN0 : N % r = 0 := Nat.mod_eq_zero_of_dvd hrN
    refine Nat.dvd_of_mod_eq_zero ?_
    have e : b + (N - 1) = (b - 1) + N := by
      have : 1 ≤ b := by
        rcases Nat.eq_zero_or_pos b with h | h
        · subst h; simp at hb1
        · exact h
      omega
    have hb' : (b - 1) % r = 0 := by
      have hb0 : b = r * (b / r) + 1 := by rw [← hb1]; exact (Nat.div_add_mod b r).symm
      rw [hb0, Nat.add_sub_cancel]; exact Nat.mul_mod_right _ _
    rw [e, Nat.add_mod, hb', hN0]; simp
  have : r ∣ Nat.gcd (b + (N - 1)) N := Nat.dvd_gcd hd hrN
  rw [hg] at this
  have := Nat.le_of_dvd (by decide) this
  omega

/-- a ^ n modulo m, by squaring. -/
def modpow (a n m : Nat) : Nat → Nat
  | 0 => 1 % m
  | k + 1 => if n = 0 then 1 % m else
    let h := modpow a (n / 2) m k
    if n % 2 = 1 then h * h % m * a % m else h * h % m

theorem modpow_eq (a m : Nat) : ∀ (k n : Nat), n < 2 ^ k → modpow a n m k = a ^ n % m
  | 0, n, h => by
    have : n = 0 := by simpa using h
    subst this; simp [modpow]
  | k + 1, n, h => by
    unfold modpow
    split
    · subst_vars; simp
    · have ih := modpow_eq a m k (n / 2) (by rw [Nat.pow_succ] at h; omega)
      simp only [ih]
      have hsq : a ^ (n / 2) % m * (a ^ (n / 2) % m) % m = a ^ (n / 2 + n / 2) % m := by rw [← Nat.mul_mod, ← Nat.pow_add]
      split
      · rename_i h1
        rw [hsq, Nat.mod_mul_mod, ← Nat.pow_succ]; congr 2; omega
      · rw [hsq]; congr 2; omega

/-- Pocklington, over a list of primes with their witnesses: the product of the primes is above the root of N. -/
theorem pock (N : Nat) (qs : List (Nat × Nat)) (hN : 2 ≤ N)
    (hq : ∀ qa, qa ∈ qs → IsPrime qa.1 ∧ qa.1 ∣ N - 1 ∧ qa.2 ^ (N - 1) % N = 1 ∧ Nat.gcd (qa.2 ^ ((N - 1) / qa.1) + (N - 1)) N = 1)
    (hco : qs.Pairwise fun x y => Nat.Coprime x.1 y.1)
    (hF : N ≤ prodL (qs.map Prod.fst) * prodL (qs.map Prod.fst)) : IsPrime N := by
  refine Classical.byContradiction fun hn => ?_
  obtain ⟨r, hr, hrN, hrr⟩ := small_prime hN hn
  have hdvd : ∀ l : List (Nat × Nat), (∀ qa, qa ∈ l → qa ∈ qs) → l.Pairwise (fun x y => Nat.Coprime x.1 y.1) → prodL (l.map Prod.fst) ∣ r - 1 := by
    intro l
    induction l with
    | nil => intro _ _; simp [prodL]
    | cons x l ih =>
      intro hs hp
      rw [List.pairwise_cons] at hp
      have h1 := ih (fun y hy => hs y (by simp [hy])) hp.2
      obtain ⟨hx1, hx2, hx3, hx4⟩ := hq x (hs x (by simp))
      have h2 : x.1 ∣ r - 1 := pock_step hx1 hx2 hx3 hx4 hN hr hrN
      have hc : Nat.Coprime x.1 (prodL (l.map Prod.fst)) := by
        have : ∀ t : List (Nat × Nat), (∀ y, y ∈ t → Nat.Coprime x.1 y.1) → Nat.Coprime x.1 (prodL (t.map Prod.fst)) := by
          intro t
          induction t with
          | nil => intro _; simp [prodL]
          | cons y t iht => intro h; exact Nat.Coprime.mul_right (h y (by simp)) (iht fun z hz => h z (by simp [hz]))
        exact this l hp.1
      exact hc.mul_dvd_of_dvd_of_dvd h2 h1
  have hd := hdvd qs (fun _ h => h) hco
  have hr2 := hr.1
  have hle : prodL (qs.map Prod.fst) ≤ r - 1 := Nat.le_of_dvd (by omega) hd
  have : prodL (qs.map Prod.fst) * prodL (qs.map Prod.fst) ≤ (r - 1) * (r - 1) := Nat.mul_le_mul hle hle
  have h3 : (r - 1) * (r - 1) < r * r := Nat.mul_lt_mul_of_lt_of_lt (by omega) (by omega)
  omega

/-- By trial: n is prime when nothing from 2 to its root divides it. -/
def noDiv (n : Nat) : Nat → Bool
  | 0 => true
  | k + 1 => (k + 1 < 2 || n % (k + 1) != 0) && noDiv n k
theorem noDiv_spec (n : Nat) : ∀ k, noDiv n k = true → ∀ m, 2 ≤ m → m ≤ k → ¬ m ∣ n
  | 0, _, m, h2, hk => by omega
  | k + 1, h, m, h2, hk => by
    simp only [noDiv, Bool.and_eq_true, Bool.or_eq_true, decide_eq_true_eq, bne_iff_ne] at h
    rcases Nat.lt_or_ge m (k + 1) with hlt | hge
    · exact noDiv_spec n k h.2 m h2 (by omega)
    · have : m = k + 1 := by omega
      subst this
      rcases h.1 with h1 | h1
      · omega
      · intro hd; exact h1 (Nat.mod_eq_zero_of_dvd hd)
theorem prime_trial (n k : Nat) (h2 : 2 ≤ n) (hk : n < (k + 1) * (k + 1)) (h : noDiv n k = true) : IsPrime n := by
  refine Classical.byContradiction fun hn => ?_
  obtain ⟨r, hr, hrn, hrr⟩ := small_prime h2 hn
  have := hr.1
  refine noDiv_spec n k h r hr.1 ?_ hrn
  refine Classical.byContradiction fun hlt => ?_
  have : (k + 1) * (k + 1) ≤ r * r := Nat.mul_le_mul (by omega) (by omega)
  omega

/-- What a Pocklington step asks, by reckoning. -/
def pockOk (N q a k : Nat) : Bool :=
  (N - 1) % q == 0 && modpow a (N - 1) N k == 1 && Nat.gcd (modpow a ((N - 1) / q) N k + (N - 1)) N == 1 && decide (N - 1 < 2 ^ k)
theorem pockOk_spec {N q a k : Nat} (h : pockOk N q a k = true) :
    q ∣ N - 1 ∧ a ^ (N - 1) % N = 1 ∧ Nat.gcd (a ^ ((N - 1) / q) + (N - 1)) N = 1 := by
  simp only [pockOk, Bool.and_eq_true, beq_iff_eq, decide_eq_true_eq] at h
  obtain ⟨⟨⟨h1, h2⟩, h3⟩, h4⟩ := h
  have h5 : (N - 1) / q < 2 ^ k := Nat.lt_of_le_of_lt (Nat.div_le_self _ _) h4
  rw [modpow_eq a N k _ h4] at h2
  rw [modpow_eq a N k _ h5] at h3
  refine ⟨Nat.dvd_of_mod_eq_zero h1, h2, ?_⟩
  have key : ∀ x y : Nat, Nat.gcd (x % N + y) N = Nat.gcd (x + y) N := by
    intro x y
    rw [Nat.gcd_comm, Nat.gcd_comm _ N, Nat.gcd_rec N (x + y), Nat.gcd_rec N (x % N + y), Nat.mod_add_mod]
  rw [← key]; exact h3

theorem pock1 {N q a k : Nat} (hN : 2 ≤ N) (hq : IsPrime q) (h : pockOk N q a k = true) (hF : N ≤ q * q) : IsPrime N := by
  refine pock N [(q, a)] hN ?_ (by simp) (by simpa [prodL] using hF)
  intro qa hqa
  obtain rfl : qa = (q, a) := by simpa using hqa
  exact ⟨hq, pockOk_spec h⟩
theorem pock2 {N q a q' a' k : Nat} (hN : 2 ≤ N) (hq : IsPrime q) (hq' : IsPrime q') (hne : q' ≠ q) (h : pockOk N q a k = true) (h' : pockOk N q' a' k = true)
    (hF : N ≤ (q * q') * (q * q')) : IsPrime N := by
  refine pock N [(q, a), (q', a')] hN ?_ ?_ (by simpa [prodL] using hF)
  · intro qa hqa
    rcases (by simpa using hqa : qa = (q, a) ∨ qa = (q', a')) with rfl | rfl
    · exact ⟨hq, pockOk_spec h⟩
    · exact ⟨hq', pockOk_spec h'⟩
  · simp only [List.pairwise_cons, List.mem_singleton, forall_eq, List.not_mem_nil, false_implies, implies_true, List.Pairwise.nil, and_true]
    refine prime_coprime hq ?_
    intro hd
    have := hq.1
    rcases hq'.2 q hd with h1 | h1
    · omega
    · exact hne h1.symm
theorem prime_430751 : IsPrime 430751 := prime_trial 430751 656 (by decide) (by decide) (by decide +kernel)
theorem prime_4153 : IsPrime 4153 := prime_trial 4153 64 (by decide) (by decide) (by decide +kernel)
theorem prime_75707 : IsPrime 75707 := prime_trial 75707 275 (by decide) (by decide) (by decide +kernel)
theorem prime_8574133 : IsPrime 8574133 := prime_trial 8574133 2928 (by decide) (by decide) (by decide +kernel)
theorem prime_127 : IsPrime 127 := prime_trial 127 11 (by decide) (by decide) (by decide +kernel)
theorem prime_31757755568855353 : IsPrime 31757755568855353 := pock2 (q := 430751) (a := 2) (q' := 4153) (a' := 2) (k := 55) (by decide) prime_430751 prime_4153 (by decide) (by decide +kernel) (by decide +kernel) (by decide)
theorem prime_1919519569386763 : IsPrime 1919519569386763 := pock2 (q := 8574133) (a := 2) (q' := 127) (a' := 2) (k := 51) (by decide) prime_8574133 prime_127 (by decide) (by decide +kernel) (by decide +kernel) (by decide)
theorem prime_75445702479781427272750846543864801 : IsPrime 75445702479781427272750846543864801 := pock2 (q := 1919519569386763) (a := 2) (q' := 75707) (a' := 2) (k := 116) (by decide) prime_1919519569386763 prime_75707 (by decide) (by decide +kernel) (by decide +kernel) (by decide)
theorem prime_74058212732561358302231226437062788676166966415465897661863160754340907 : IsPrime 74058212732561358302231226437062788676166966415465897661863160754340907 := pock2 (q := 75445702479781427272750846543864801) (a := 2) (q' := 31757755568855353) (a' := 2) (k := 236) (by decide) prime_75445702479781427272750846543864801 prime_31757755568855353 (by decide) (by decide +kernel) (by decide +kernel) (by decide)
theorem prime25519 : IsPrime 57896044618658097711785492504343953926634992332820282019728792003956564819949 := pock1 (q := 74058212732561358302231226437062788676166966415465897661863160754340907) (a := 2) (k := 255) (by decide) prime_74058212732561358302231226437062788676166966415465897661863160754340907 (by decide +kernel) (by decide)
end MSE

namespace MSE
abbrev Q : Nat := 57896044618658097711785492504343953926634992332820282019728792003956564819949
abbrev F := Fin Q
theorem eq2 {l r c1 c2 : F} (k : l - r = c1 * 0 + c2 * 0) : l = r := by grind -lia
theorem eq3 {l r c1 c2 c3 : F} (k : l - r = c1 * 0 + c2 * 0 + c3 * 0) : l = r := by grind -lia

/-! ### The field of 2^255 - 19, as Fin Q. -/
theorem q_prime : IsPrime Q := prime25519
theorem mul_zero_or {a b : F} (h : a * b = 0) : a = 0 ∨ b = 0 := by
  have hv : (a.val * b.val) % Q = 0 := by have := congrArg Fin.val h; rwa [Fin.val_mul] at this
  have key : ∀ {c : F}, Q ∣ c.val → c = 0 := by
    intro c hc
    apply Fin.ext
    have : c.val = 0 := Nat.eq_zero_of_dvd_of_lt hc c.isLt
    rw [this]; rfl
  rcases prime_dvd_mul q_prime (Nat.dvd_of_mod_eq_zero hv) with h1 | h1
  · exact Or.inl (key h1)
  · exact Or.inr (key h1)
theorem mul_ne {a b : F} (ha : a ≠ 0) (hb : b ≠ 0) : a * b ≠ 0 := fun h => (mul_zero_or h).elim ha hb
theorem cancelF {a x y : F} (ha : a ≠ 0) (h : x * a = y * a) : x = y := by
  have : (x - y) * a = 0 := by grind -lia
  rcases mul_zero_or this with h1 | h1
  · grind -lia
  · exact absurd h1 ha
theorem sq_zero {a : F} (h : a * a = 0) : a = 0 := (mul_zero_or h).elim id id

def fp (a : F) : Nat → F
  | 0 => 1
  | n + 1 => fp a n * a
theorem fp_zero (a : F) : fp a 0 = 1 := rfl
theorem fp_succ (a : F) (n : Nat) : fp a (n + 1) = fp a n * a := rfl
theorem fp_val (a : F) : ∀ n, (fp a n).val = a.val ^ n % Q
  | 0 => rfl
  | n + 1 => by rw [fp_succ, Fin.val_mul, fp_val a n, Nat.pow_succ, Nat.mod_mul_mod]
theorem fp_add (a : F) (m : Nat) : ∀ n, fp a (m + n) = fp a m * fp a n
  | 0 => by rw [fp_zero, Nat.add_zero]; grind -lia
  | n + 1 => by rw [← Nat.add_assoc, fp_succ, fp_succ, fp_add a m n]; grind -lia
theorem fp_mul (a : F) (m : Nat) : ∀ n, fp a (m * n) = fp (fp a m) n
  | 0 => by simp [fp_zero]
  | n + 1 => by rw [Nat.mul_succ, fp_add, fp_mul a m n, fp_succ]
theorem fp_mulBase (a b : F) : ∀ n, fp (a * b) n = fp a n * fp b n
  | 0 => by simp [fp_zero]
  | n + 1 => by rw [fp_succ, fp_succ, fp_succ, fp_mulBase a b n]; grind -lia
theorem fp_two (a : F) : fp a 2 = a * a := by rw [fp_succ, fp_succ, fp_zero]; grind -lia
theorem fp_zeroBase (n : Nat) (h : 0 < n) : fp 0 n = 0 := by
  cases n with
  | zero => omega
  | succ n => rw [fp_succ]; grind -lia
theorem fp_fermat {a : F} (ha : a ≠ 0) : fp a (Q - 1) = 1 := by
  apply Fin.ext
  rw [fp_val]
  refine fermat q_prime ?_
  intro hd
  refine ha (Fin.ext ?_)
  rw [Nat.eq_zero_of_dvd_of_lt hd a.isLt]; rfl
attribute [irreducible] fp
/-- The inverse; of 0 it is 0. -/
def inv (a : F) : F := fp a (Q - 2)
theorem mul_inv {a : F} (ha : a ≠ 0) : a * inv a = 1 := by
  have h := fp_fermat ha
  have e : Q - 1 = (Q - 2) + 1 := by decide
  rw [e, fp_succ] at h
  unfold inv
  generalize fp a (Q - 2) = b at *
  grind -lia
theorem inv_zero : inv 0 = 0 := fp_zeroBase _ (by decide)
attribute [irreducible] inv
theorem inv_eq {a b : F} (h : a * b = 1) : inv a = b := by
  have ha : a ≠ 0 := by
    intro e; rw [e] at h
    have : (0 : F) = 1 := by grind -lia
    exact absurd this (by decide)
  have h2 := mul_inv ha
  generalize inv a = c at *
  refine cancelF ha ?_
  grind -lia
theorem frac_eq {u v u' v' : F} (hv : v ≠ 0) (hv' : v' ≠ 0) (h : u * v' = u' * v) : u * inv v = u' * inv v' := by
  have h1 := mul_inv hv
  have h2 := mul_inv hv'
  refine cancelF (mul_ne hv hv') ?_
  generalize inv v = i at *
  generalize inv v' = i' at *
  have e1 : u * i * (v * v') = u * v' * (v * i) := by grind -lia
  have e2 : u' * i' * (v * v') = u' * v * (v' * i') := by grind -lia
  rw [e1, e2, h1, h2, h]
/-! ### Squares: 2^255 - 19 is 5 modulo 8. -/
def Sq (a : F) : Prop := ∃ s : F, s * s = a
theorem half_sq {a : F} (ha : a ≠ 0) : fp a ((Q - 1) / 2) = 1 ∨ fp a ((Q - 1) / 2) = -1 := by
  have h : fp a ((Q - 1) / 2) * fp a ((Q - 1) / 2) = 1 := by
    rw [← fp_add]; exact fp_fermat ha
  generalize fp a ((Q - 1) / 2) = b at *
  have : (b - 1) * (b + 1) = 0 := by grind -lia
  rcases mul_zero_or this with h1 | h1
  · left; grind -lia
  · right; grind -lia
theorem fp_by (a : F) (n k : Nat) (h : n < 2 ^ k) (r : F) (hr : modpow a.val n Q k = r.val) : fp a n = r := by
  apply Fin.ext; rw [fp_val, ← modpow_eq a.val Q k n h, hr]
theorem root_m1 : fp 2 ((Q - 1) / 4) * fp 2 ((Q - 1) / 4) = -1 := by
  rw [← fp_add]
  exact fp_by 2 _ 256 (by decide +kernel) (-1) (by decide +kernel)
theorem sq_of_half {a : F} (h : fp a ((Q - 1) / 2) = 1) : Sq a := by
  have h4 : fp a ((Q + 3) / 8) * fp a ((Q + 3) / 8) * (fp a ((Q + 3) / 8) * fp a ((Q + 3) / 8)) = a * a := by
    rw [← fp_add, ← fp_add]
    have e : (Q + 3) / 8 + (Q + 3) / 8 + ((Q + 3) / 8 + (Q + 3) / 8) = (Q - 1) / 2 + 2 := by decide
    rw [e, fp_add, h, fp_two]; grind -lia
  have hr := root_m1
  generalize fp a ((Q + 3) / 8) = y at *
  generalize fp 2 ((Q - 1) / 4) = i at *
  have : (y * y - a) * (y * y + a) = 0 := by
    rw [show (y * y - a) * (y * y + a) = y * y * (y * y) - a * a by grind -lia, h4]; grind -lia
  rcases mul_zero_or this with h1 | h1
  · exact ⟨y, by grind -lia⟩
  · exact ⟨i * y, by grind -lia⟩
theorem half_of_sq {a s : F} (hs : s * s = a) (ha : a ≠ 0) : fp a ((Q - 1) / 2) = 1 := by
  have hs0 : s ≠ 0 := by intro e; rw [e] at hs; exact ha (by rw [← hs]; grind -lia)
  rw [← hs, ← fp_two, ← fp_mul]
  exact fp_fermat hs0
theorem nonsq_mul {a b : F} (ha : ¬ Sq a) (hb : ¬ Sq b) : Sq (a * b) := by
  have ha0 : a ≠ 0 := fun e => ha ⟨0, by rw [e]; grind -lia⟩
  have hb0 : b ≠ 0 := fun e => hb ⟨0, by rw [e]; grind -lia⟩
  refine sq_of_half ?_
  rw [fp_mulBase]
  rcases half_sq ha0 with h1 | h1
  · exact absurd (sq_of_half h1) ha
  · rcases half_sq hb0 with h2 | h2
    · exact absurd (sq_of_half h2) hb
    · rw [h1, h2]; grind -lia
theorem nonsq_of {a : F} (ha : a ≠ 0) (h : fp a ((Q - 1) / 2) = -1) : ¬ Sq a := by
  rintro ⟨s, hs⟩
  rw [half_of_sq hs ha] at h
  exact absurd h (by decide)
theorem closure_id (d x1 y1 x2 y2 : F) : ((x1*y2 + y1*x2)*(1 - d*(x1*x2*y1*y2)))*((x1*y2 + y1*x2)*(1 - d*(x1*x2*y1*y2))) + ((y1*y2 - x1*x2)*(1 + d*(x1*x2*y1*y2)))*((y1*y2 - x1*x2)*(1 + d*(x1*x2*y1*y2))) - (((1 + d*(x1*x2*y1*y2))*(1 - d*(x1*x2*y1*y2)))*((1 + d*(x1*x2*y1*y2))*(1 - d*(x1*x2*y1*y2))) + d*((x1*y2 + y1*x2)*(y1*y2 - x1*x2))*((x1*y2 + y1*x2)*(y1*y2 - x1*x2))) = (d*d*d*x1*x1*y1*y1*x2*x2*x2*x2*y2*y2*y2*y2 + d*d*x1*x1*x2*x2*x2*x2*y2*y2*y2*y2 + d*d*y1*y1*x2*x2*x2*x2*y2*y2*y2*y2 - d*d*x2*x2*x2*x2*y2*y2*y2*y2 - d*x1*x1*x2*x2*x2*x2*y2*y2 - d*x1*x1*x2*x2*y2*y2*y2*y2 - d*y1*y1*x2*x2*x2*x2*y2*y2 - d*y1*y1*x2*x2*y2*y2*y2*y2 + 2*d*x2*x2*x2*x2*y2*y2*y2*y2 - 2*d*x2*x2*y2*y2 - 2*x2*x2*x2*x2*y2*y2 + x2*x2*x2*x2 - 2*x2*x2*y2*y2*y2*y2 + 4*x2*x2*y2*y2 + y2*y2*y2*y2) * (x1*x1 + y1*y1 - 1 - d*x1*x1*y1*y1) + (d*x1*x1*x1*x1*x2*x2*y2*y2 - 2*d*x1*x1*x2*x2*y2*y2 + d*y1*y1*y1*y1*x2*x2*y2*y2 - 2*d*y1*y1*x2*x2*y2*y2 + d*x2*x2*y2*y2 + 2*x1*x1*x2*x2*y2*y2 - x1*x1*x2*x2 - x1*x1*y2*y2 + 2*y1*y1*x2*x2*y2*y2 - y1*y1*x2*x2 - y1*y1*y2*y2 - 2*x2*x2*y2*y2 + x2*x2 + y2*y2 + 1) * (x2*x2 + y2*y2 - 1 - d*x2*x2*y2*y2) := by grind -lia
theorem closure (d x1 y1 x2 y2 : F) (h1 : x1*x1 + y1*y1 = 1 + d*x1*x1*y1*y1) (h2 : x2*x2 + y2*y2 = 1 + d*x2*x2*y2*y2) :
    ((x1*y2 + y1*x2)*(1 - d*(x1*x2*y1*y2)))*((x1*y2 + y1*x2)*(1 - d*(x1*x2*y1*y2))) + ((y1*y2 - x1*x2)*(1 + d*(x1*x2*y1*y2)))*((y1*y2 - x1*x2)*(1 + d*(x1*x2*y1*y2))) = ((1 + d*(x1*x2*y1*y2))*(1 - d*(x1*x2*y1*y2)))*((1 + d*(x1*x2*y1*y2))*(1 - d*(x1*x2*y1*y2))) + d*((x1*y2 + y1*x2)*(y1*y2 - x1*x2))*((x1*y2 + y1*x2)*(y1*y2 - x1*x2)) := by
  have g1 : x1*x1 + y1*y1 - 1 - d*x1*x1*y1*y1 = 0 := by rw [h1]; grind -lia
  have g2 : x2*x2 + y2*y2 - 1 - d*x2*x2*y2*y2 = 0 := by rw [h2]; grind -lia
  have k := closure_id d x1 y1 x2 y2
  rw [g1, g2] at k
  exact eq2 k
theorem assocx_id (d x1 y1 x2 y2 x3 y3 : F) : ((x1*y2 + y1*x2)*(1 - d*(x1*x2*y1*y2))*y3 + (y1*y2 - x1*x2)*(1 + d*(x1*x2*y1*y2))*x3)*((1 + d*(x2*x3*y2*y3))*(1 - d*(x2*x3*y2*y3)) + d*x1*y1*(x2*y3 + y2*x3)*(y2*y3 - x2*x3)) - ((x1*(y2*y3 - x2*x3)*(1 + d*(x2*x3*y2*y3)) + y1*(x2*y3 + y2*x3)*(1 - d*(x2*x3*y2*y3)))*((1 + d*(x1*x2*y1*y2))*(1 - d*(x1*x2*y1*y2)) + d*(x1*y2 + y1*x2)*(y1*y2 - x1*x2)*x3*y3)) = (d*d*x1*x2*x2*x2*x2*y2*y2*y2*x3*x3*y3 - d*d*x1*x2*x2*x2*y2*y2*y2*y2*x3*y3*y3 + d*d*y1*x2*x2*x2*x2*y2*y2*y2*x3*y3*y3 + d*d*y1*x2*x2*x2*y2*y2*y2*y2*x3*x3*y3 - d*x1*x2*x2*x2*x2*y2*x3*x3*y3 - d*x1*x2*x2*x2*y2*y2*x3*x3*x3 + d*x1*x2*x2*x2*y2*y2*x3 + d*x1*x2*x2*y2*y2*y2*y3*y3*y3 - d*x1*x2*x2*y2*y2*y2*y3 + d*x1*x2*y2*y2*y2*y2*x3*y3*y3 - d*y1*x2*x2*x2*x2*y2*x3*y3*y3 + d*y1*x2*x2*x2*y2*y2*y3*y3*y3 - d*y1*x2*x2*x2*y2*y2*y3 + d*y1*x2*x2*y2*y2*y2*x3*x3*x3 - d*y1*x2*x2*y2*y2*y2*x3 - d*y1*x2*y2*y2*y2*y2*x3*x3*y3) * (x1*x1 + y1*y1 - 1 - d*x1*x1*y1*y1) + (d*x1*x1*x1*x2*x2*y2*x3*x3*y3 - d*x1*x1*x1*x2*y2*y2*x3*y3*y3 - d*x1*x1*y1*x2*x2*y2*x3*x3*x3 + d*x1*x1*y1*x2*x2*y2*x3 - d*x1*x1*y1*x2*y2*y2*y3*y3*y3 + d*x1*x1*y1*x2*y2*y2*y3 - d*x1*y1*y1*x2*x2*y2*y3*y3*y3 + d*x1*y1*y1*x2*x2*y2*y3 + d*x1*y1*y1*x2*y2*y2*x3*x3*x3 - d*x1*y1*y1*x2*y2*y2*x3 - d*x1*x2*x2*y2*x3*x3*y3 + d*x1*x2*y2*y2*x3*y3*y3 + d*y1*y1*y1*x2*x2*y2*x3*y3*y3 + d*y1*y1*y1*x2*y2*y2*x3*x3*y3 - d*y1*x2*x2*y2*x3*y3*y3 - d*y1*x2*y2*y2*x3*x3*y3) * (x2*x2 + y2*y2 - 1 - d*x2*x2*y2*y2) + (- d*d*x1*x1*y1*x2*x2*x2*x2*y2*y2*y2*x3 - d*d*x1*x1*y1*x2*x2*x2*y2*y2*y2*y2*y3 - d*d*x1*y1*y1*x2*x2*x2*x2*y2*y2*y2*y3 + d*d*x1*y1*y1*x2*x2*x2*y2*y2*y2*y2*x3 + d*x1*x1*x1*x2*x2*x2*y2*y2*x3 - d*x1*x1*x1*x2*x2*y2*y2*y2*y3 + d*x1*x1*y1*x2*x2*x2*x2*y2*x3 + d*x1*x1*y1*x2*y2*y2*y2*y2*y3 + d*x1*y1*y1*x2*x2*x2*x2*y2*y3 - d*x1*y1*y1*x2*y2*y2*y2*y2*x3 - d*x1*x2*x2*x2*y2*y2*x3 + d*x1*x2*x2*y2*y2*y2*y3 - d*y1*y1*y1*x2*x2*x2*y2*y2*y3 - d*y1*y1*y1*x2*x2*y2*y2*y2*x3 + d*y1*x2*x2*x2*y2*y2*y3 + d*y1*x2*x2*y2*y2*y2*x3) * (x3*x3 + y3*y3 - 1 - d*x3*x3*y3*y3) := by grind -lia
theorem assocx (d x1 y1 x2 y2 x3 y3 : F) (h1 : x1*x1 + y1*y1 = 1 + d*x1*x1*y1*y1) (h2 : x2*x2 + y2*y2 = 1 + d*x2*x2*y2*y2) (h3 : x3*x3 + y3*y3 = 1 + d*x3*x3*y3*y3) :
    ((x1*y2 + y1*x2)*(1 - d*(x1*x2*y1*y2))*y3 + (y1*y2 - x1*x2)*(1 + d*(x1*x2*y1*y2))*x3)*((1 + d*(x2*x3*y2*y3))*(1 - d*(x2*x3*y2*y3)) + d*x1*y1*(x2*y3 + y2*x3)*(y2*y3 - x2*x3)) = (x1*(y2*y3 - x2*x3)*(1 + d*(x2*x3*y2*y3)) + y1*(x2*y3 + y2*x3)*(1 - d*(x2*x3*y2*y3)))*((1 + d*(x1*x2*y1*y2))*(1 - d*(x1*x2*y1*y2)) + d*(x1*y2 + y1*x2)*(y1*y2 - x1*x2)*x3*y3) := by
  have g1 : x1*x1 + y1*y1 - 1 - d*x1*x1*y1*y1 = 0 := by rw [h1]; grind -lia
  have g2 : x2*x2 + y2*y2 - 1 - d*x2*x2*y2*y2 = 0 := by rw [h2]; grind -lia
  have g3 : x3*x3 + y3*y3 - 1 - d*x3*x3*y3*y3 = 0 := by rw [h3]; grind -lia
  have k := assocx_id d x1 y1 x2 y2 x3 y3
  rw [g1, g2, g3] at k
  exact eq3 k
theorem assocy_id (d x1 y1 x2 y2 x3 y3 : F) : ((y1*y2 - x1*x2)*(1 + d*(x1*x2*y1*y2))*y3 - (x1*y2 + y1*x2)*(1 - d*(x1*x2*y1*y2))*x3)*((1 + d*(x2*x3*y2*y3))*(1 - d*(x2*x3*y2*y3)) - d*x1*y1*(x2*y3 + y2*x3)*(y2*y3 - x2*x3)) - ((y1*(y2*y3 - x2*x3)*(1 + d*(x2*x3*y2*y3)) - x1*(x2*y3 + y2*x3)*(1 - d*(x2*x3*y2*y3)))*((1 + d*(x1*x2*y1*y2))*(1 - d*(x1*x2*y1*y2)) - d*(x1*y2 + y1*x2)*(y1*y2 - x1*x2)*x3*y3)) = (- d*d*x1*x2*x2*x2*x2*y2*y2*y2*x3*y3*y3 - d*d*x1*x2*x2*x2*y2*y2*y2*y2*x3*x3*y3 + d*d*y1*x2*x2*x2*x2*y2*y2*y2*x3*x3*y3 - d*d*y1*x2*x2*x2*y2*y2*y2*y2*x3*y3*y3 + d*x1*x2*x2*x2*x2*y2*x3*y3*y3 - d*x1*x2*x2*x2*y2*y2*y3*y3*y3 + d*x1*x2*x2*x2*y2*y2*y3 - d*x1*x2*x2*y2*y2*y2*x3*x3*x3 + d*x1*x2*x2*y2*y2*y2*x3 + d*x1*x2*y2*y2*y2*y2*x3*x3*y3 - d*y1*x2*x2*x2*x2*y2*x3*x3*y3 - d*y1*x2*x2*x2*y2*y2*x3*x3*x3 + d*y1*x2*x2*x2*y2*y2*x3 + d*y1*x2*x2*y2*y2*y2*y3*y3*y3 - d*y1*x2*x2*y2*y2*y2*y3 + d*y1*x2*y2*y2*y2*y2*x3*y3*y3) * (x1*x1 + y1*y1 - 1 - d*x1*x1*y1*y1) + (- d*x1*x1*x1*x2*x2*y2*x3*y3*y3 - d*x1*x1*x1*x2*y2*y2*x3*x3*y3 - d*x1*x1*y1*x2*x2*y2*y3*y3*y3 + d*x1*x1*y1*x2*x2*y2*y3 + d*x1*x1*y1*x2*y2*y2*x3*x3*x3 - d*x1*x1*y1*x2*y2*y2*x3 + d*x1*y1*y1*x2*x2*y2*x3*x3*x3 - d*x1*y1*y1*x2*x2*y2*x3 + d*x1*y1*y1*x2*y2*y2*y3*y3*y3 - d*x1*y1*y1*x2*y2*y2*y3 + d*x1*x2*x2*y2*x3*y3*y3 + d*x1*x2*y2*y2*x3*x3*y3 + d*y1*y1*y1*x2*x2*y2*x3*x3*y3 - d*y1*y1*y1*x2*y2*y2*x3*y3*y3 - d*y1*x2*x2*y2*x3*x3*y3 + d*y1*x2*y2*y2*x3*y3*y3) * (x2*x2 + y2*y2 - 1 - d*x2*x2*y2*y2) + (- d*d*x1*x1*y1*x2*x2*x2*x2*y2*y2*y2*y3 + d*d*x1*x1*y1*x2*x2*x2*y2*y2*y2*y2*x3 + d*d*x1*y1*y1*x2*x2*x2*x2*y2*y2*y2*x3 + d*d*x1*y1*y1*x2*x2*x2*y2*y2*y2*y2*y3 + d*x1*x1*x1*x2*x2*x2*y2*y2*y3 + d*x1*x1*x1*x2*x2*y2*y2*y2*x3 + d*x1*x1*y1*x2*x2*x2*x2*y2*y3 - d*x1*x1*y1*x2*y2*y2*y2*y2*x3 - d*x1*y1*y1*x2*x2*x2*x2*y2*x3 - d*x1*y1*y1*x2*y2*y2*y2*y2*y3 - d*x1*x2*x2*x2*y2*y2*y3 - d*x1*x2*x2*y2*y2*y2*x3 + d*y1*y1*y1*x2*x2*x2*y2*y2*x3 - d*y1*y1*y1*x2*x2*y2*y2*y2*y3 - d*y1*x2*x2*x2*y2*y2*x3 + d*y1*x2*x2*y2*y2*y2*y3) * (x3*x3 + y3*y3 - 1 - d*x3*x3*y3*y3) := by grind -lia
theorem assocy (d x1 y1 x2 y2 x3 y3 : F) (h1 : x1*x1 + y1*y1 = 1 + d*x1*x1*y1*y1) (h2 : x2*x2 + y2*y2 = 1 + d*x2*x2*y2*y2) (h3 : x3*x3 + y3*y3 = 1 + d*x3*x3*y3*y3) :
    ((y1*y2 - x1*x2)*(1 + d*(x1*x2*y1*y2))*y3 - (x1*y2 + y1*x2)*(1 - d*(x1*x2*y1*y2))*x3)*((1 + d*(x2*x3*y2*y3))*(1 - d*(x2*x3*y2*y3)) - d*x1*y1*(x2*y3 + y2*x3)*(y2*y3 - x2*x3)) = (y1*(y2*y3 - x2*x3)*(1 + d*(x2*x3*y2*y3)) - x1*(x2*y3 + y2*x3)*(1 - d*(x2*x3*y2*y3)))*((1 + d*(x1*x2*y1*y2))*(1 - d*(x1*x2*y1*y2)) - d*(x1*y2 + y1*x2)*(y1*y2 - x1*x2)*x3*y3) := by
  have g1 : x1*x1 + y1*y1 - 1 - d*x1*x1*y1*y1 = 0 := by rw [h1]; grind -lia
  have g2 : x2*x2 + y2*y2 - 1 - d*x2*x2*y2*y2 = 0 := by rw [h2]; grind -lia
  have g3 : x3*x3 + y3*y3 - 1 - d*x3*x3*y3*y3 = 0 := by rw [h3]; grind -lia
  have k := assocy_id d x1 y1 x2 y2 x3 y3
  rw [g1, g2, g3] at k
  exact eq3 k
theorem daddid_id (d x1 y1 x2 y2 : F) : ((1 - d*(x1*x2*y1*y2)) + (y1*y2 - x1*x2))*((1 + d*(x1*x2*y1*y2)) + y1*y2 + x1*x2)*((y1 - y2)*(y1 - y2)) - (((1 - d*(x1*x2*y1*y2)) - (y1*y2 - x1*x2))*((1 + d*(x1*x2*y1*y2)) - y1*y2 - x1*x2)*((y1 + y2)*(y1 + y2))) = (- 4*d*y1*x2*x2*y2*y2*y2 + 4*y1*x2*x2*y2) * (x1*x1 + y1*y1 - 1 - d*x1*x1*y1*y1) + (- 4*y1*y1*y1*y2 + 4*y1*y2) * (x2*x2 + y2*y2 - 1 - d*x2*x2*y2*y2) := by grind -lia
theorem daddid (d x1 y1 x2 y2 : F) (h1 : x1*x1 + y1*y1 = 1 + d*x1*x1*y1*y1) (h2 : x2*x2 + y2*y2 = 1 + d*x2*x2*y2*y2) :
    ((1 - d*(x1*x2*y1*y2)) + (y1*y2 - x1*x2))*((1 + d*(x1*x2*y1*y2)) + y1*y2 + x1*x2)*((y1 - y2)*(y1 - y2)) = ((1 - d*(x1*x2*y1*y2)) - (y1*y2 - x1*x2))*((1 + d*(x1*x2*y1*y2)) - y1*y2 - x1*x2)*((y1 + y2)*(y1 + y2)) := by
  have g1 : x1*x1 + y1*y1 - 1 - d*x1*x1*y1*y1 = 0 := by rw [h1]; grind -lia
  have g2 : x2*x2 + y2*y2 - 1 - d*x2*x2*y2*y2 = 0 := by rw [h2]; grind -lia
  have k := daddid_id d x1 y1 x2 y2
  rw [g1, g2] at k
  exact eq2 k

/-! ### The curve x^2 + y^2 = 1 + d x^2 y^2, d no square: a complete law of addition. -/
def On (d : F) (p : F × F) : Prop := p.1 * p.1 + p.2 * p.2 = 1 + d * p.1 * p.1 * p.2 * p.2
def padd (d : F) (p q : F × F) : F × F :=
  ((p.1 * q.2 + p.2 * q.1) * inv (1 + d * (p.1 * q.1 * p.2 * q.2)), (p.2 * q.2 - p.1 * q.1) * inv (1 - d * (p.1 * q.1 * p.2 * q.2)))

theorem two_ne : (2 : F) ≠ 0 := by decide
theorem one_ne : (1 : F) ≠ 0 := by decide

/-- The denominators are never 0. -/
theorem complete_aux {d x1 y1 x2 y2 e : F} (hd : ¬ Sq d) (h1 : On d (x1, y1)) (h2 : On d (x2, y2)) (he : e * e = 1) : d * (x1 * x2 * y1 * y2) ≠ e := by
  intro hm
  unfold On at h1 h2
  simp only at h1 h2
  have he0 : e ≠ 0 := by intro h; rw [h] at he; exact one_ne (by grind -lia)
  have hx : x1 * y1 ≠ 0 := by
    intro h
    refine he0 ?_
    rw [← hm, show d * (x1 * x2 * y1 * y2) = x1 * y1 * (d * x2 * y2) by grind -lia, h]; grind -lia
  have sq : ∀ t : F, (t = x2 + y2 ∨ t = x2 - y2) → t ≠ 0 → Sq d := by
    intro t ht ht0
    have hxt : x1 * y1 * t ≠ 0 := mul_ne hx ht0
    have key : ∃ s, s * s = d * (x1 * y1 * t) * (x1 * y1 * t) := by
      have e1 : d * x1 * x1 * y1 * y1 * (x2 * x2 + y2 * y2) = x1 * x1 + y1 * y1 := by
        rw [h2, show d * x1 * x1 * y1 * y1 * (1 + d * x2 * x2 * y2 * y2) = d * x1 * x1 * y1 * y1 + d * (x1 * x2 * y1 * y2) * (d * (x1 * x2 * y1 * y2)) by grind -lia, hm, he, h1]
        grind -lia
      rcases ht with rfl | rfl
      · refine ⟨x1 + e * y1, ?_⟩
        rw [← hm] at he ⊢
        grind -lia
      · refine ⟨x1 - e * y1, ?_⟩
        rw [← hm] at he ⊢
        grind -lia
    obtain ⟨s, hs⟩ := key
    have hi := mul_inv hxt
    generalize inv (x1 * y1 * t) = i at hi
    generalize x1 * y1 * t = z at *
    refine ⟨s * i, ?_⟩
    rw [show s * i * (s * i) = s * s * (i * i) by grind -lia, hs]
    grind -lia
  have ha : x2 + y2 = 0 := Classical.byContradiction fun h => hd (sq _ (Or.inl rfl) h)
  have hb : x2 - y2 = 0 := Classical.byContradiction fun h => hd (sq _ (Or.inr rfl) h)
  have h2x : 2 * x2 = 0 := by grind -lia
  have hx2 : x2 = 0 := (mul_zero_or h2x).elim (fun h => absurd h two_ne) id
  refine he0 ?_
  rw [← hm, hx2]; grind -lia
theorem complete_add {d : F} {p q : F × F} (hd : ¬ Sq d) (hp : On d p) (hq : On d q) : 1 + d * (p.1 * q.1 * p.2 * q.2) ≠ 0 := by
  intro h
  refine complete_aux hd (x1 := p.1) (y1 := p.2) (x2 := q.1) (y2 := q.2) (e := -1) hp hq (by grind -lia) ?_
  generalize d * (p.1 * q.1 * p.2 * q.2) = m at *
  grind -lia
theorem complete_sub {d : F} {p q : F × F} (hd : ¬ Sq d) (hp : On d p) (hq : On d q) : 1 - d * (p.1 * q.1 * p.2 * q.2) ≠ 0 := by
  intro h
  refine complete_aux hd (x1 := p.1) (y1 := p.2) (x2 := q.1) (y2 := q.2) (e := 1) hp hq (by grind -lia) ?_
  generalize d * (p.1 * q.1 * p.2 * q.2) = m at *
  grind -lia

theorem padd_on {d : F} {p q : F × F} (hd : ¬ Sq d) (hp : On d p) (hq : On d q) : On d (padd d p q) := by
  have hB := complete_add hd hp hq
  have hD := complete_sub hd hp hq
  obtain ⟨x1, y1⟩ := p
  obtain ⟨x2, y2⟩ := q
  have hc := closure d x1 y1 x2 y2 hp hq
  simp only at hB hD
  have iB := mul_inv hB
  have iD := mul_inv hD
  unfold On padd
  simp only
  generalize inv (1 + d * (x1 * x2 * y1 * y2)) = b at *
  generalize inv (1 - d * (x1 * x2 * y1 * y2)) = c at *
  generalize (1 + d * (x1 * x2 * y1 * y2)) = B at *
  generalize (1 - d * (x1 * x2 * y1 * y2)) = D at *
  generalize x1 * y2 + y1 * x2 = A at *
  generalize y1 * y2 - x1 * x2 = C at *
  have hBD : (B * D) * (B * D) ≠ 0 := mul_ne (mul_ne hB hD) (mul_ne hB hD)
  refine cancelF hBD ?_
  have e1 : (A * b * (A * b) + C * c * (C * c)) * (B * D * (B * D)) = A * D * (A * D) * ((B * b) * (B * b)) + C * B * (C * B) * ((D * c) * (D * c)) := by grind -lia
  have e2 : (1 + d * (A * b) * (A * b) * (C * c) * (C * c)) * (B * D * (B * D)) = B * D * (B * D) + d * (A * C) * (A * C) * ((B * b) * (B * b)) * ((D * c) * (D * c)) := by grind -lia
  rw [e1, e2, iB, iD]
  grind -lia

theorem padd_comm (d : F) (p q : F × F) : padd d p q = padd d q p := by
  unfold padd
  rw [show p.1 * q.1 * p.2 * q.2 = q.1 * p.1 * q.2 * p.2 by grind -lia, show p.1 * q.2 + p.2 * q.1 = q.1 * p.2 + q.2 * p.1 by grind -lia, show p.2 * q.2 - p.1 * q.1 = q.2 * p.2 - q.1 * p.1 by grind -lia]
theorem inv_one : inv 1 = 1 := inv_eq (by grind -lia)
theorem padd_zero (d : F) (p : F × F) : padd d p (0, 1) = p := by
  unfold padd
  simp only
  rw [show (1 : F) + d * (p.1 * 0 * p.2 * 1) = 1 by grind -lia, show (1 : F) - d * (p.1 * 0 * p.2 * 1) = 1 by grind -lia, inv_one]
  apply Prod.ext <;> simp only <;> grind -lia

theorem padd_assoc {d : F} {p q r : F × F} (hd : ¬ Sq d) (hp : On d p) (hq : On d q) (hr : On d r) : padd d (padd d p q) r = padd d p (padd d q r) := by
  have hB := complete_add hd hp hq
  have hD := complete_sub hd hp hq
  have hB' := complete_add hd hq hr
  have hD' := complete_sub hd hq hr
  have hV := complete_add hd (padd_on hd hp hq) hr
  have hW := complete_sub hd (padd_on hd hp hq) hr
  have hV' := complete_add hd hp (padd_on hd hq hr)
  have hW' := complete_sub hd hp (padd_on hd hq hr)
  obtain ⟨x1, y1⟩ := p
  obtain ⟨x2, y2⟩ := q
  obtain ⟨x3, y3⟩ := r
  have ax := assocx d x1 y1 x2 y2 x3 y3 hp hq hr
  have ay := assocy d x1 y1 x2 y2 x3 y3 hp hq hr
  simp only at hB hD hB' hD'
  have iB := mul_inv hB
  have iD := mul_inv hD
  have iB' := mul_inv hB'
  have iD' := mul_inv hD'
  simp only [padd] at hV hW hV' hW' ⊢
  generalize inv (1 + d * (x1 * x2 * y1 * y2)) = b at *
  generalize inv (1 - d * (x1 * x2 * y1 * y2)) = c at *
  generalize inv (1 + d * (x2 * x3 * y2 * y3)) = b' at *
  generalize inv (1 - d * (x2 * x3 * y2 * y3)) = c' at *
  generalize (1 + d * (x1 * x2 * y1 * y2)) = B at *
  generalize (1 - d * (x1 * x2 * y1 * y2)) = D at *
  generalize (1 + d * (x2 * x3 * y2 * y3)) = B' at *
  generalize (1 - d * (x2 * x3 * y2 * y3)) = D' at *
  generalize x1 * y2 + y1 * x2 = A at *
  generalize y1 * y2 - x1 * x2 = C at *
  generalize x2 * y3 + y2 * x3 = A' at *
  generalize y2 * y3 - x2 * x3 = C' at *
  have hZ : (B * D) * (B' * D') ≠ 0 := mul_ne (mul_ne hB hD) (mul_ne hB' hD')
  apply Prod.ext
  · simp only
    refine frac_eq hV hV' (cancelF hZ ?_)
    have e1 : (A * b * y3 + C * c * x3) * (1 + d * (x1 * (A' * b') * y1 * (C' * c'))) * (B * D * (B' * D')) =
        (A * D * (B * b) * y3 + C * B * (D * c) * x3) * (B' * D' + d * x1 * y1 * A' * C' * (B' * b') * (D' * c')) := by grind -lia
    have e2 : (x1 * (C' * c') + y1 * (A' * b')) * (1 + d * (A * b * x3 * (C * c) * y3)) * (B * D * (B' * D')) =
        (x1 * C' * B' * (D' * c') + y1 * A' * D' * (B' * b')) * (B * D + d * A * C * (B * b) * (D * c) * x3 * y3) := by grind -lia
    rw [e1, e2, iB, iD, iB', iD']
    grind -lia
  · simp only
    refine frac_eq hW hW' (cancelF hZ ?_)
    have e1 : (C * c * y3 - A * b * x3) * (1 - d * (x1 * (A' * b') * y1 * (C' * c'))) * (B * D * (B' * D')) =
        (C * B * (D * c) * y3 - A * D * (B * b) * x3) * (B' * D' - d * x1 * y1 * A' * C' * (B' * b') * (D' * c')) := by grind -lia
    have e2 : (y1 * (C' * c') - x1 * (A' * b')) * (1 - d * (A * b * x3 * (C * c) * y3)) * (B * D * (B' * D')) =
        (y1 * C' * B' * (D' * c') - x1 * A' * D' * (B' * b')) * (B * D - d * A * C * (B * b) * (D * c) * x3 * y3) := by grind -lia
    rw [e1, e2, iB, iD, iB', iD']
    grind -lia

/-- n times a point. -/
def pmul (d : F) (p : F × F) : Nat → F × F
  | 0 => (0, 1)
  | n + 1 => padd d (pmul d p n) p
theorem zero_on (d : F) : On d (0, 1) := by unfold On; simp only; grind -lia
theorem pmul_on {d : F} {p : F × F} (hd : ¬ Sq d) (hp : On d p) : ∀ n, On d (pmul d p n)
  | 0 => zero_on d
  | n + 1 => padd_on hd (pmul_on hd hp n) hp
theorem pmul_add {d : F} {p : F × F} (hd : ¬ Sq d) (hp : On d p) (m : Nat) : ∀ n, pmul d p (m + n) = padd d (pmul d p m) (pmul d p n)
  | 0 => (padd_zero d _).symm
  | n + 1 => by
    show padd d (pmul d p (m + n)) p = padd d (pmul d p m) (padd d (pmul d p n) p)
    rw [pmul_add hd hp m n, padd_assoc hd (pmul_on hd hp m) (pmul_on hd hp n) hp]
theorem pmul_mul {d : F} {p : F × F} (hd : ¬ Sq d) (hp : On d p) (m : Nat) : ∀ n, pmul d (pmul d p m) n = pmul d p (m * n)
  | 0 => rfl
  | n + 1 => by
    show padd d (pmul d (pmul d p m) n) (pmul d p m) = _
    rw [pmul_mul hd hp m n, Nat.mul_succ, pmul_add hd hp]
theorem pmul_one {d : F} {p : F × F} : pmul d p 1 = p := by
  show padd d (0, 1) p = p
  rw [padd_comm, padd_zero]
def pneg (p : F × F) : F × F := (-p.1, p.2)
theorem pneg_on {d : F} {p : F × F} (hp : On d p) : On d (pneg p) := by
  unfold On pneg at *; simp only; grind -lia
theorem padd_pneg {d : F} {p : F × F} (hd : ¬ Sq d) (hp : On d p) : padd d p (pneg p) = (0, 1) := by
  have hB := complete_add hd hp (pneg_on hp)
  have hD := complete_sub hd hp (pneg_on hp)
  have iD := mul_inv hD
  unfold padd
  unfold On at hp
  simp only [pneg] at *
  apply Prod.ext
  · simp only
    rw [show p.1 * p.2 + p.2 * -p.1 = 0 by grind -lia]; grind -lia
  · simp only
    rw [show p.2 * p.2 - p.1 * -p.1 = 1 - d * (p.1 * -p.1 * p.2 * p.2) by grind -lia]; exact iD
/-! ### The ladder of RFC 7748, over the field. -/
def dblF (p : F × F) : F × F :=
  let s := (p.1 + p.2) * (p.1 + p.2)
  let t := (p.1 - p.2) * (p.1 - p.2)
  let e := s - t
  (s * t, e * (s + e * 121665))
def addF (u : F) (p q : F × F) : F × F :=
  let m := (q.1 - q.2) * (p.1 + p.2)
  let n := (q.1 + q.2) * (p.1 - p.2)
  ((m + n) * (m + n), u * ((m - n) * (m - n)))
def stepF (u : F) (s : (F × F) × (F × F)) (b : Bool) : (F × F) × (F × F) :=
  if b then (addF u s.1 s.2, dblF s.2) else (dblF s.1, addF u s.1 s.2)
def ladF (u : F) (bits : List Bool) : (F × F) × (F × F) := bits.foldl (stepF u) ((1, 0), (u, 1))
def outF (p : F × F) : F := p.1 * inv p.2
def xlF (u : F) (bits : List Bool) : F := outF (ladF u bits).1
def valB (bits : List Bool) : Nat := bits.foldl (fun n b => 2 * n + b.toNat) 0

/-- (X : Z) stands for the point of the part y: X / Z = e (1 + y) / (1 - y). -/
def Rel (e : F) (P : F × F) (p : F × F) : Prop := ∃ l : F, l ≠ 0 ∧ p.1 = l * (1 + P.2) ∧ p.2 = e * (l * (1 - P.2))
/-- e, d belong together: the curve itself, or that of the other sign. -/
def Fits (e d : F) : Prop := (e = 1 ∧ d * 121666 = 121665) ∨ (e = -1 ∧ d * 121665 = 121666)

theorem one_sub_ne {d x : F} (hd : ¬ Sq d) : 1 - d * (x * x) ≠ 0 := by
  intro h
  have hx : x ≠ 0 := by intro e; rw [e] at h; exact one_ne (by grind -lia)
  have hi := mul_inv hx
  generalize inv x = i at hi
  exact hd ⟨i, by grind -lia⟩
theorem eight_ne : (8 : F) ≠ 0 := by decide
theorem sixteen_ne : (16 : F) ≠ 0 := by decide

theorem dbl_g {d x y a g : F} (hon : x * x + y * y = 1 + d * x * x * y * y) (ha : d * (a + 1) = a) (hg : g = 1 + a * (1 - y * y)) : g * (1 - d * (x * x)) = 1 := by
  subst hg
  grind -lia

theorem dbl_rel {e d : F} {P p : F × F} (hd : ¬ Sq d) (hf : Fits e d) (hP : On d P) (h : Rel e P p) : Rel e (padd d P P) (dblF p) := by
  obtain ⟨l, hl, hX, hZ⟩ := h
  obtain ⟨x, y⟩ := P
  obtain ⟨X, Z⟩ := p
  have hD := complete_sub hd hP hP
  unfold On at hP
  simp only at hP hX hZ hD
  have iD := mul_inv hD
  unfold Rel dblF padd
  simp only
  generalize inv (1 - d * (x * x * y * y)) = c at *
  have hg : ∃ g : F, g * (1 - d * (x * x)) = 1 ∧ ((e = 1 ∧ g = 1 + 121665 * (1 - y * y)) ∨ (e = -1 ∧ g = y * y + 121665 * (y * y - 1))) := by
    rcases hf with ⟨he, hdd⟩ | ⟨he, hdd⟩
    · exact ⟨_, dbl_g hP (by rw [← hdd]; grind -lia) rfl, Or.inl ⟨he, rfl⟩⟩
    · refine ⟨_, dbl_g (a := -121666) hP ?_ rfl, Or.inr ⟨he, ?_⟩⟩
      · rw [show (-121666 : F) + 1 = -121665 by grind -lia]; grind -lia
      · grind -lia
  obtain ⟨g, hg1, hg2⟩ := hg
  have hg0 : g ≠ 0 := by intro e; rw [e] at hg1; exact one_ne (by grind -lia)
  refine ⟨8 * (l * l * l * l) * ((1 - d * (x * x * y * y)) * g), mul_ne (mul_ne eight_ne (mul_ne (mul_ne (mul_ne hl hl) hl) hl)) (mul_ne hD hg0), ?_, ?_⟩
  · have e1 : (1 - d * (x * x * y * y)) * (1 + (y * y - x * x) * c) = 2 * (y * y * (1 - d * (x * x))) := by
      rw [show (1 - d * (x * x * y * y)) * (1 + (y * y - x * x) * c) = (1 - d * (x * x * y * y)) + (y * y - x * x) * ((1 - d * (x * x * y * y)) * c) by grind -lia, iD]
      grind -lia
    rw [show 8 * (l * l * l * l) * ((1 - d * (x * x * y * y)) * g) * (1 + (y * y - x * x) * c) = 8 * (l * l * l * l) * g * ((1 - d * (x * x * y * y)) * (1 + (y * y - x * x) * c)) by grind -lia, e1]
    rw [show 8 * (l * l * l * l) * g * (2 * (y * y * (1 - d * (x * x)))) = 16 * (l * l * l * l) * (y * y) * (g * (1 - d * (x * x))) by grind -lia, hg1, hX, hZ]
    rcases hg2 with ⟨he, _⟩ | ⟨he, _⟩ <;> subst he <;> grind -lia
  · have e1 : (1 - d * (x * x * y * y)) * (1 - (y * y - x * x) * c) = 2 * (1 - y * y) := by
      rw [show (1 - d * (x * x * y * y)) * (1 - (y * y - x * x) * c) = (1 - d * (x * x * y * y)) - (y * y - x * x) * ((1 - d * (x * x * y * y)) * c) by grind -lia, iD]
      grind -lia
    rw [show e * (8 * (l * l * l * l) * ((1 - d * (x * x * y * y)) * g) * (1 - (y * y - x * x) * c)) = e * (8 * (l * l * l * l) * g * ((1 - d * (x * x * y * y)) * (1 - (y * y - x * x) * c))) by grind -lia, e1, hX, hZ]
    clear e1 iD hg1 hD hP
    rcases hg2 with ⟨he, hgg⟩ | ⟨he, hgg⟩ <;> subst he hgg <;> grind -lia

theorem fits_sq {e d : F} (hf : Fits e d) : e * e = 1 := by
  rcases hf with ⟨h, _⟩ | ⟨h, _⟩ <;> subst h <;> grind -lia

theorem add_rel {e d u : F} {P R p q : F × F} (hd : ¬ Sq d) (hf : Fits e d) (hP : On d P) (hR : On d R) (hu : u ≠ 0)
    (hG : u * (e * (1 - (padd d R (pneg P)).2)) = 1 + (padd d R (pneg P)).2)
    (h : Rel e P p) (h' : Rel e R q) : Rel e (padd d P R) (addF u p q) := by
  obtain ⟨l, hl, hX, hZ⟩ := h
  obtain ⟨k, hk, hX', hZ'⟩ := h'
  have hB := complete_add hd hP hR
  have hD := complete_sub hd hP hR
  obtain ⟨x1, y1⟩ := P
  obtain ⟨x2, y2⟩ := R
  obtain ⟨X1, Z1⟩ := p
  obtain ⟨X2, Z2⟩ := q
  have hid := daddid d x1 y1 x2 y2 hP hR
  have hee := fits_sq hf
  unfold On at hP hR
  unfold pneg padd at hG
  simp only at hB hD hP hR hX hZ hX' hZ' hG
  rw [show 1 - d * (x2 * -x1 * y2 * y1) = 1 + d * (x1 * x2 * y1 * y2) by grind -lia, show y2 * y1 - x2 * -x1 = y1 * y2 + x1 * x2 by grind -lia] at hG
  have iB := mul_inv hB
  have iD := mul_inv hD
  unfold Rel addF padd
  simp only
  generalize inv (1 + d * (x1 * x2 * y1 * y2)) = b at *
  generalize inv (1 - d * (x1 * x2 * y1 * y2)) = c at *
  -- the product of both sides
  have hST : (1 + (y1 * y2 - x1 * x2) * c) * (1 + (y1 * y2 + x1 * x2) * b) * ((y1 - y2) * (y1 - y2)) = (1 - (y1 * y2 - x1 * x2) * c) * (1 - (y1 * y2 + x1 * x2) * b) * ((y1 + y2) * (y1 + y2)) := by
    have hBD : (1 + d * (x1 * x2 * y1 * y2)) * (1 - d * (x1 * x2 * y1 * y2)) ≠ 0 := mul_ne hB hD
    refine cancelF hBD ?_
    generalize (1 + d * (x1 * x2 * y1 * y2)) = B at *
    generalize (1 - d * (x1 * x2 * y1 * y2)) = D at *
    rw [show (1 + (y1 * y2 - x1 * x2) * c) * (1 + (y1 * y2 + x1 * x2) * b) * ((y1 - y2) * (y1 - y2)) * (B * D) = (D + (y1 * y2 - x1 * x2) * (D * c)) * (B + (y1 * y2 + x1 * x2) * (B * b)) * ((y1 - y2) * (y1 - y2)) by grind -lia,
      show (1 - (y1 * y2 - x1 * x2) * c) * (1 - (y1 * y2 + x1 * x2) * b) * ((y1 + y2) * (y1 + y2)) * (B * D) = (D - (y1 * y2 - x1 * x2) * (D * c)) * (B - (y1 * y2 + x1 * x2) * (B * b)) * ((y1 + y2) * (y1 + y2)) by grind -lia, iB, iD]
    clear hG hX hZ hX' hZ' hP hR hee
    grind -lia
  have hne : 1 - (y1 * y2 + x1 * x2) * b ≠ 0 := by
    intro h0
    rw [h0] at hG
    have h1 : 1 + (y1 * y2 + x1 * x2) * b = 0 := by rw [← hG]; grind -lia
    exact two_ne (by grind -lia)
  have hne' : 1 + (y1 * y2 + x1 * x2) * b ≠ 0 := by
    rw [← hG]
    refine mul_ne hu (mul_ne ?_ hne)
    intro h0; rw [h0] at hee; exact one_ne (by grind -lia)
  have hS0 : (y1 + y2) * (y1 + y2) = 0 → (y1 - y2) * (y1 - y2) = 0 → False := by
    intro hs ht
    have hs' := sq_zero hs
    have ht' := sq_zero ht
    have h2y : 2 * y1 = 0 := by grind -lia
    have hy1 : y1 = 0 := (mul_zero_or h2y).elim (fun h => absurd h two_ne) id
    have hy2 : y2 = 0 := by grind -lia
    subst hy1 hy2
    have hx1 : x1 * x1 = 1 := by grind -lia
    have hx2 : x2 * x2 = 1 := by grind -lia
    have hb : b = 1 := by grind -lia
    subst hb
    refine mul_ne hne hne' ?_
    grind -lia
  generalize (y1 * y2 - x1 * x2) * c = yp at *
  generalize (y1 * y2 + x1 * x2) * b = y0 at *
  have hcross : (1 + yp) * (u * e * ((y1 - y2) * (y1 - y2))) = (1 - yp) * ((y1 + y2) * (y1 + y2)) := by
    refine cancelF hne ?_
    rw [show (1 - yp) * ((y1 + y2) * (y1 + y2)) * (1 - y0) = (1 - yp) * (1 - y0) * ((y1 + y2) * (y1 + y2)) by grind -lia, ← hST, ← hG]
    grind -lia
  have hX5 : ((X2 - Z2) * (X1 + Z1) + (X2 + Z2) * (X1 - Z1)) * ((X2 - Z2) * (X1 + Z1) + (X2 + Z2) * (X1 - Z1)) = 16 * (l * l * k * k) * ((y1 + y2) * (y1 + y2)) := by
    rw [hX, hZ, hX', hZ']
    rcases hf with ⟨he, _⟩ | ⟨he, _⟩ <;> subst he <;> grind -lia
  have hZ5 : u * (((X2 - Z2) * (X1 + Z1) - (X2 + Z2) * (X1 - Z1)) * ((X2 - Z2) * (X1 + Z1) - (X2 + Z2) * (X1 - Z1))) = 16 * (l * l * k * k) * (u * ((y1 - y2) * (y1 - y2))) := by
    rw [hX, hZ, hX', hZ']
    rcases hf with ⟨he, _⟩ | ⟨he, _⟩ <;> subst he <;> grind -lia
  rw [hX5, hZ5]
  clear hX5 hZ5 hX hZ hX' hZ' hG hST hid hP hR iB iD hB hD hf
  generalize (y1 + y2) * (y1 + y2) = S at *
  generalize (y1 - y2) * (y1 - y2) = T at *
  have i2 := mul_inv two_ne
  generalize inv 2 = h at i2
  refine ⟨16 * (l * l * k * k) * ((S + u * e * T) * h), mul_ne (mul_ne sixteen_ne (mul_ne (mul_ne (mul_ne hl hl) hk) hk)) (mul_ne ?_ ?_), ?_, ?_⟩
  · intro h0
    have hS : S = 0 := by grind -lia
    have hu' : u * e * T = 0 := by grind -lia
    have he0 : u * e ≠ 0 := mul_ne hu (by intro h0; rw [h0] at hee; exact one_ne (by grind -lia))
    exact hS0 hS ((mul_zero_or hu').elim (fun h => absurd h he0) id)
  · intro h0; rw [h0] at i2; exact one_ne (by grind -lia)
  · have : (S + u * e * T) * h * (1 + yp) = S := by grind -lia
    rw [show 16 * (l * l * k * k) * ((S + u * e * T) * h) * (1 + yp) = 16 * (l * l * k * k) * ((S + u * e * T) * h * (1 + yp)) by grind -lia, this]
  · have : e * ((S + u * e * T) * h * (1 - yp)) = u * T := by grind -lia
    rw [show e * (16 * (l * l * k * k) * ((S + u * e * T) * h) * (1 - yp)) = 16 * (l * l * k * k) * (e * ((S + u * e * T) * h * (1 - yp))) by grind -lia, this]
/-- What the ladder keeps. -/
theorem lad_inv {e d u : F} {G : F × F} (hd : ¬ Sq d) (hf : Fits e d) (hG : On d G) (hu : u ≠ 0) (hug : u * (e * (1 - G.2)) = 1 + G.2) :
    ∀ (bits : List Bool) (n : Nat) (s : (F × F) × (F × F)), Rel e (pmul d G n) s.1 → Rel e (pmul d G (n + 1)) s.2 →
      Rel e (pmul d G (bits.foldl (fun n b => 2 * n + b.toNat) n)) (bits.foldl (stepF u) s).1 ∧
      Rel e (pmul d G (bits.foldl (fun n b => 2 * n + b.toNat) n + 1)) (bits.foldl (stepF u) s).2
  | [], n, s, h1, h2 => ⟨h1, h2⟩
  | b :: bits, n, s, h1, h2 => by
    have hn := pmul_on hd hG n
    have hn1 := pmul_on hd hG (n + 1)
    have hdiff : padd d (pmul d G (n + 1)) (pneg (pmul d G n)) = G := by
      rw [Nat.add_comm n 1, pmul_add hd hG, padd_assoc hd (pmul_on hd hG 1) hn (pneg_on hn), padd_pneg hd hn, padd_zero, pmul_one]
    have ha : Rel e (pmul d G (n + (n + 1))) (addF u s.1 s.2) := by
      rw [pmul_add hd hG]
      exact add_rel hd hf hn hn1 hu (by rw [hdiff]; exact hug) h1 h2
    simp only [List.foldl_cons]
    refine lad_inv hd hf hG hu hug bits (2 * n + b.toNat) _ ?_ ?_
    · cases b
      · have := dbl_rel hd hf hn h1
        rw [← pmul_add hd hG] at this
        rw [show 2 * n + false.toNat = n + n by simp; omega]; exact this
      · rw [show 2 * n + true.toNat = n + (n + 1) by simp; omega]; exact ha
    · cases b
      · rw [show 2 * n + false.toNat + 1 = n + (n + 1) by simp; omega]; exact ha
      · have := dbl_rel hd hf hn1 h2
        rw [← pmul_add hd hG] at this
        rw [show 2 * n + true.toNat + 1 = (n + 1) + (n + 1) by simp; omega]; exact this

/-- The part u of a point, 0 at the point 0. -/
def uOf (e : F) (P : F × F) : F := e * (1 + P.2) * inv (1 - P.2)

theorem out_rel {e : F} {P p : F × F} (hee : e * e = 1) (h : Rel e P p) : outF p = uOf e P := by
  obtain ⟨l, hl, hX, hZ⟩ := h
  unfold outF uOf
  have he : e ≠ 0 := by intro h0; rw [h0] at hee; exact one_ne (by grind -lia)
  by_cases h0 : 1 - P.2 = 0
  · rw [hZ, h0, show e * (l * 0) = 0 by grind -lia, inv_zero]; grind -lia
  · have hZ0 : p.2 ≠ 0 := by rw [hZ]; exact mul_ne he (mul_ne hl h0)
    refine frac_eq hZ0 h0 ?_
    rw [hX, hZ]
    rw [show e * (1 + P.2) * (e * (l * (1 - P.2))) = e * e * (l * (1 + P.2) * (1 - P.2)) by grind -lia, hee]; grind -lia

theorem xl_main {e d u : F} {G : F × F} (hd : ¬ Sq d) (hf : Fits e d) (hG : On d G) (hu : u ≠ 0) (hug : u * (e * (1 - G.2)) = 1 + G.2) (bits : List Bool) :
    xlF u bits = uOf e (pmul d G (valB bits)) := by
  have hee := fits_sq hf
  have he : e ≠ 0 := by intro h0; rw [h0] at hee; exact one_ne (by grind -lia)
  refine out_rel hee (lad_inv hd hf hG hu hug bits 0 ((1, 0), (u, 1)) ?_ ?_).1
  · have i2 := mul_inv two_ne
    refine ⟨inv 2, ?_, ?_, ?_⟩
    · intro h0; rw [h0] at i2; exact one_ne (by grind -lia)
    · show (1 : F) = inv 2 * (1 + 1)
      generalize inv 2 = h at *
      grind -lia
    · show (0 : F) = e * (inv 2 * (1 - 1))
      grind -lia
  · have h1 : 1 - G.2 ≠ 0 := by
      intro h0; rw [h0] at hug
      exact two_ne (by grind -lia)
    have i1 := mul_inv h1
    rw [Nat.zero_add, pmul_one]
    refine ⟨e * inv (1 - G.2), mul_ne he ?_, ?_, ?_⟩
    · intro h0; rw [h0] at i1; exact one_ne (by grind -lia)
    · show u = _
      rw [← hug]
      rw [show e * inv (1 - G.2) * (u * (e * (1 - G.2))) = e * e * u * ((1 - G.2) * inv (1 - G.2)) by grind -lia, i1, hee]; grind -lia
    · show (1 : F) = _
      rw [show e * (e * inv (1 - G.2) * (1 - G.2)) = e * e * ((1 - G.2) * inv (1 - G.2)) by grind -lia, i1, hee]; grind -lia

/-- Of 0: by bits that end in false the ladder makes 0. -/
theorem xl_zero (bits : List Bool) : xlF 0 (bits ++ [false]) = 0 := by
  have inv0 : ∀ (l : List Bool) (s : (F × F) × (F × F)), s.1.1 * s.1.2 = 0 → s.2.1 * s.2.2 = 0 →
      (l.foldl (stepF 0) s).1.1 * (l.foldl (stepF 0) s).1.2 = 0 ∧ (l.foldl (stepF 0) s).2.1 * (l.foldl (stepF 0) s).2.2 = 0 := by
    intro l
    induction l with
    | nil => intro s h1 h2; exact ⟨h1, h2⟩
    | cons b l ih =>
      intro s h1 h2
      simp only [List.foldl_cons]
      cases b
      · refine ih _ ?_ ?_
        · show (dblF s.1).1 * (dblF s.1).2 = 0
          simp only [dblF]
          rw [show (s.1.1 + s.1.2) * (s.1.1 + s.1.2) - (s.1.1 - s.1.2) * (s.1.1 - s.1.2) = 4 * (s.1.1 * s.1.2) by grind -lia, h1]; grind -lia
        · show (addF 0 s.1 s.2).1 * (addF 0 s.1 s.2).2 = 0
          simp only [addF]; grind -lia
      · refine ih _ ?_ ?_
        · show (addF 0 s.1 s.2).1 * (addF 0 s.1 s.2).2 = 0
          simp only [addF]; grind -lia
        · show (dblF s.2).1 * (dblF s.2).2 = 0
          simp only [dblF]
          rw [show (s.2.1 + s.2.2) * (s.2.1 + s.2.2) - (s.2.1 - s.2.2) * (s.2.1 - s.2.2) = 4 * (s.2.1 * s.2.2) by grind -lia, h2]; grind -lia
  unfold xlF ladF
  rw [List.foldl_append]
  have := (inv0 bits ((1, 0), (0, 1)) (by show (1 : F) * 0 = 0; grind -lia) (by show (0 : F) * 1 = 0; grind -lia)).1
  generalize bits.foldl (stepF 0) ((1, 0), (0, 1)) = s at *
  show outF (dblF s.1) = 0
  unfold outF
  have hz : (dblF s.1).2 = 0 := by
    simp only [dblF]
    rw [show (s.1.1 + s.1.2) * (s.1.1 + s.1.2) - (s.1.1 - s.1.2) * (s.1.1 - s.1.2) = 4 * (s.1.1 * s.1.2) by grind -lia, this]; grind -lia
  rw [hz, inv_zero]; grind -lia

theorem valB_snoc (bits : List Bool) (b : Bool) : valB (bits ++ [b]) = 2 * valB bits + b.toNat := by
  unfold valB; rw [List.foldl_append]; rfl

/-- Whatever point of the curve: the ladder by an even number. -/
theorem xl_even {e d : F} {G : F × F} (hd : ¬ Sq d) (hf : Fits e d) (hG : On d G) (bits : List Bool) :
    xlF (uOf e G) (bits ++ [false]) = uOf e (pmul d G (valB (bits ++ [false]))) := by
  have hee := fits_sq hf
  have he : e ≠ 0 := by intro h0; rw [h0] at hee; exact one_ne (by grind -lia)
  have hd1 : 1 - d ≠ 0 := by
    have := one_sub_ne (x := 1) hd
    rwa [show (1 : F) * 1 = 1 by grind -lia, show d * 1 = d by grind -lia] at this
  have hx0 : G.2 * G.2 = 1 → G.1 = 0 := by
    intro h
    unfold On at hG
    have : (1 - d) * (G.1 * G.1) = 0 := by
      generalize G.1 = x at *; generalize G.2 = y at *; grind -lia
    exact sq_zero ((mul_zero_or this).elim (fun h => absurd h hd1) id)
  have hzero : uOf e (0, 1) = 0 := by
    unfold uOf
    simp only
    rw [show (1 : F) - 1 = 0 by grind -lia, inv_zero]; grind -lia
  by_cases h1 : 1 - G.2 = 0
  · have hy : G.2 = 1 := by generalize G.2 = y at *; grind -lia
    have hx := hx0 (by rw [hy]; grind -lia)
    have hGe : G = (0, 1) := Prod.ext hx hy
    subst hGe
    have hm : ∀ n, pmul d (0, 1) n = (0, 1) := by
      intro n
      induction n with
      | zero => rfl
      | succ n ih => show padd d (pmul d (0, 1) n) (0, 1) = _; rw [padd_zero, ih]
    rw [hm, hzero]; exact xl_zero bits
  · by_cases h2 : 1 + G.2 = 0
    · have hy : G.2 = -1 := by generalize G.2 = y at *; grind -lia
      have hx := hx0 (by rw [hy]; grind -lia)
      have hGe : G = (0, -1) := Prod.ext hx hy
      subst hGe
      have hu0 : uOf e (0, -1) = 0 := by
        unfold uOf
        simp only
        rw [show (1 : F) + -1 = 0 by grind -lia]; grind -lia
      rw [hu0, xl_zero, valB_snoc]
      have h2m : pmul d (0, -1) 2 = (0, 1) := by
        show padd d (padd d (0, 1) (0, -1)) (0, -1) = _
        rw [padd_comm d (0, 1), padd_zero]
        unfold padd
        simp only
        rw [show (1 : F) + d * (0 * 0 * -1 * -1) = 1 by grind -lia, show (1 : F) - d * (0 * 0 * -1 * -1) = 1 by grind -lia, inv_one]
        apply Prod.ext <;> simp only <;> grind -lia
      have hm : ∀ n, pmul d (0, 1) n = (0, 1) := by
        intro n
        induction n with
        | zero => rfl
        | succ n ih => show padd d (pmul d (0, 1) n) (0, 1) = _; rw [padd_zero, ih]
      rw [show 2 * valB bits + false.toNat = 2 * valB bits by simp, ← pmul_mul hd hG, h2m, hm, hzero]
    · have hi := mul_inv h1
      refine xl_main hd hf hG ?_ ?_ _
      · unfold uOf
        refine mul_ne (mul_ne he h2) ?_
        intro h0; rw [h0] at hi; exact one_ne (by grind -lia)
      · unfold uOf
        rw [show e * (1 + G.2) * inv (1 - G.2) * (e * (1 - G.2)) = e * e * (1 + G.2) * ((1 - G.2) * inv (1 - G.2)) by grind -lia, hi, hee]; grind -lia

/-! ### Every u is the part of a point of one of both curves. -/
theorem c_nonsq : ¬ Sq ((486664 : F) * 486660) := nonsq_of (by decide) (fp_by _ _ 256 (by decide +kernel) (-1) (by decide +kernel))
theorem d_ex1 : ∃ d : F, d * 121666 = 121665 ∧ ¬ Sq d := by
  have hi := mul_inv (a := (121666 : F)) (by decide)
  refine ⟨121665 * inv 121666, ?_, ?_⟩
  · generalize inv 121666 = i at *; grind -lia
  · rintro ⟨s, hs⟩
    refine c_nonsq ⟨486664 * s, ?_⟩
    rw [show (486664 : F) * s * (486664 * s) = 486664 * 486664 * (s * s) by grind -lia, hs]
    generalize inv 121666 = i at *
    rw [show (486664 : F) * 486664 * (121665 * i) = 486664 * 486660 * (121666 * i) by grind -lia, hi]; grind -lia
theorem d_ex2 : ∃ d : F, d * 121665 = 121666 ∧ ¬ Sq d := by
  have hi := mul_inv (a := (121665 : F)) (by decide)
  refine ⟨121666 * inv 121665, ?_, ?_⟩
  · generalize inv 121665 = i at *; grind -lia
  · rintro ⟨s, hs⟩
    refine c_nonsq ⟨486660 * s, ?_⟩
    rw [show (486660 : F) * s * (486660 * s) = 486660 * 486660 * (s * s) by grind -lia, hs]
    generalize inv 121665 = i at *
    rw [show (486660 : F) * 486660 * (121666 * i) = 486664 * 486660 * (121665 * i) by grind -lia, hi]; grind -lia

theorem w_ne (u : F) : u * u + 486662 * u + 1 ≠ 0 := by
  intro h
  refine c_nonsq ⟨2 * u + 486662, ?_⟩
  have : (2 * u + 486662) * (2 * u + 486662) = 4 * (u * u + 486662 * u + 1) + 486664 * 486660 := by grind -lia
  rw [this, h]; grind -lia

/-- On the curve with the sign e: u is the part of a point when (e A + 2) u w is a square. -/
theorem lift_u {e d a u : F} (hf : Fits e d) (hu : u ≠ 0) (ha : a = 486662 + 2 * e) (hs : Sq (a * (u * (u * u + 486662 * u + 1)))) :
    ∃ G, On d G ∧ u = uOf e G := by
  have hee := fits_sq hf
  have he : e ≠ 0 := by intro h0; rw [h0] at hee; exact one_ne (by grind -lia)
  have hw := w_ne u
  obtain ⟨s, hs⟩ := hs
  have hue : u + e ≠ 0 := by
    intro h0
    have h1 : u = -e := by grind -lia
    subst h1
    refine c_nonsq ⟨s, ?_⟩
    rw [hs, ha]
    rcases hf with ⟨he1, _⟩ | ⟨he1, _⟩ <;> subst he1 <;> grind -lia
  have hi := mul_inv hue
  have hiw := mul_inv hw
  have h2 := mul_inv two_ne
  refine ⟨(s * inv (u * u + 486662 * u + 1), (u - e) * inv (u + e)), ?_, ?_⟩
  · unfold On
    simp only
    generalize inv (u * u + 486662 * u + 1) = j at *
    have hwd : (u * u + 486662 * u + 1) = u * u + 486662 * u + 1 := rfl
    generalize hwe : (u * u + 486662 * u + 1) = w at *
    clear hwd
    generalize inv (u + e) = i at *
    -- multiplied by w and (u + e)^2
    have hz : w * ((u + e) * (u + e)) ≠ 0 := mul_ne hw (mul_ne hue hue)
    refine cancelF hz ?_
    have x2 : s * j * (s * j) * w = a * u := by
      rw [show s * j * (s * j) * w = s * s * j * (w * j) by grind -lia, hs, hiw]
      rw [show a * (u * w) * j * 1 = a * u * (w * j) by grind -lia, hiw]; grind -lia
    have y2 : (u - e) * i * ((u - e) * i) * ((u + e) * (u + e)) = (u - e) * (u - e) := by
      rw [show (u - e) * i * ((u - e) * i) * ((u + e) * (u + e)) = (u - e) * (u - e) * (((u + e) * i) * ((u + e) * i)) by grind -lia, hi]; grind -lia
    generalize s * j * (s * j) = xx at *
    rw [show (1 + d * (s * j) * (s * j) * ((u - e) * i) * ((u - e) * i)) * (w * ((u + e) * (u + e))) = w * ((u + e) * (u + e)) + d * ((s * j * (s * j)) * w) * ((u - e) * i * ((u - e) * i) * ((u + e) * (u + e))) by grind -lia]
    rw [show s * j * (s * j) * w = a * u by rw [show s * j * (s * j) * w = s * s * j * (w * j) by grind -lia, hs, hiw, show a * (u * w) * j * 1 = a * u * (w * j) by grind -lia, hiw]; grind -lia]
    rw [show (xx + (u - e) * i * ((u - e) * i)) * (w * ((u + e) * (u + e))) = xx * w * ((u + e) * (u + e)) + w * ((u - e) * i * ((u - e) * i) * ((u + e) * (u + e))) by grind -lia, x2, y2, ha, ← hwe]
    rcases hf with ⟨he1, hdd⟩ | ⟨he1, hdd⟩ <;> subst he1 <;> clear hs hw hiw hwe hz x2 y2 hi h2 hee he hue <;> grind -lia
  · unfold uOf
    simp only
    have h1 : 1 - (u - e) * inv (u + e) ≠ 0 := by
      intro h0
      have : (1 - (u - e) * inv (u + e)) * (u + e) = 2 * e := by
        generalize inv (u + e) = i at *; grind -lia
      rw [h0] at this
      refine mul_ne two_ne he ?_
      rw [← this]; grind -lia
    have hk := mul_inv h1
    refine cancelF h1 ?_
    generalize inv (1 - (u - e) * inv (u + e)) = k at *
    generalize inv (u + e) = i at *
    rw [show e * (1 + (u - e) * i) * k * (1 - (u - e) * i) = e * (1 + (u - e) * i) * ((1 - (u - e) * i) * k) by grind -lia, hk]
    refine cancelF hue ?_
    clear hk h1
    grind -lia

theorem every_u (u : F) : ∃ e d G, ¬ Sq d ∧ Fits e d ∧ On d G ∧ u = uOf e G := by
  obtain ⟨d1, hd1, hn1⟩ := d_ex1
  obtain ⟨d2, hd2, hn2⟩ := d_ex2
  by_cases hu : u = 0
  · refine ⟨1, d1, (0, 1), hn1, Or.inl ⟨rfl, hd1⟩, zero_on _, ?_⟩
    unfold uOf
    simp only
    rw [show (1 : F) - 1 = 0 by grind -lia, inv_zero, hu]; grind -lia
  · by_cases hs : Sq (486664 * (u * (u * u + 486662 * u + 1)))
    · obtain ⟨G, h1, h2⟩ := lift_u (e := 1) (a := 486664) (Or.inl ⟨rfl, hd1⟩) hu (by decide) hs
      exact ⟨1, d1, G, hn1, Or.inl ⟨rfl, hd1⟩, h1, h2⟩
    · have hs2 : Sq (486660 * (u * (u * u + 486662 * u + 1))) := by
        obtain ⟨s, hs'⟩ := nonsq_mul hs c_nonsq
        have hi := mul_inv (a := (486664 : F)) (by decide)
        generalize inv 486664 = i at *
        refine ⟨s * i, ?_⟩
        rw [show s * i * (s * i) = s * s * (i * i) by grind -lia, hs']
        rw [show 486664 * (u * (u * u + 486662 * u + 1)) * (486664 * 486660) * (i * i) = 486660 * (u * (u * u + 486662 * u + 1)) * ((486664 * i) * (486664 * i)) by grind -lia, hi]; grind -lia
      obtain ⟨G, h1, h2⟩ := lift_u (e := -1) (a := 486660) (Or.inr ⟨rfl, hd2⟩) hu (by decide) hs2
      exact ⟨-1, d2, G, hn2, Or.inr ⟨rfl, hd2⟩, h1, h2⟩

/-- THE LAW: two ladders by even numbers do not hang on their order. -/
theorem xl_comm (u : F) (a b : List Bool) : xlF (xlF u (a ++ [false])) (b ++ [false]) = xlF (xlF u (b ++ [false])) (a ++ [false]) := by
  obtain ⟨e, d, G, hd, hf, hG, rfl⟩ := every_u u
  rw [xl_even hd hf hG, xl_even hd hf hG, xl_even hd hf (pmul_on hd hG _), xl_even hd hf (pmul_on hd hG _), pmul_mul hd hG, pmul_mul hd hG, Nat.mul_comm]
end MSE

namespace Go.Proofs.YtfckjilhkdlpfaaGreatDoor
open Go.RowKit MS
/-- A slice of 16 digits that holds an element of the field. -/
def DF (w : World) (v : Value) (x : MSE.F) : Prop := DS w 0 v 16 x.val
theorem DF.on {w w' : World} {v : Value} {x : MSE.F} (h : DF w v x) (hb : Below w.heap.size w w') : DF w' v x := DS.on h hb
def toF (n : Nat) : MSE.F := ⟨n % MSE.Q, Nat.mod_lt _ (by decide)⟩
theorem DF.val {w : World} {v : Value} {x : MSE.F} (h : DF w v x) : DS w 0 v 16 x.val := h

theorem rmulF (x y : MSE.F) (va vb : Value) (w : World) (ha : DF w va x) (hb : DF w vb y) :
    Calls Tryz.prog 80 #[va, vb] w fun e w' => Below w.heap.size w w' ∧ ∃ r, e = .returned r ∧ DF w' r (x * y) :=
  (rfmul_any x.val y.val va vb 0 0 w ha hb).mono fun _ _ h => h
theorem raddF (x y : MSE.F) (va vb : Value) (w : World) (ha : DF w va x) (hb : DF w vb y) :
    Calls Tryz.prog 109 #[va, vb] w fun e w' => Below w.heap.size w w' ∧ ∃ r, e = .returned r ∧ DF w' r (x + y) :=
  (rfadd_any 16 16 x.val y.val va vb 0 0 w ha hb (by decide) (by decide) (by decide)).mono fun _ _ h => h
theorem rsubF (x y : MSE.F) (va vb : Value) (w : World) (ha : DF w va x) (hb : DF w vb y) :
    Calls Tryz.prog 108 #[va, vb] w fun e w' => Below w.heap.size w w' ∧ ∃ r, e = .returned r ∧ DF w' r (x - y) := by
  refine (rfsub_any x.val y.val va vb 0 0 w ha hb (Nat.le_of_lt y.isLt)).mono fun _ _ h => ?_
  obtain ⟨h1, r, h2, h3⟩ := h
  refine ⟨h1, r, h2, ?_⟩
  show DS _ _ _ _ (x - y).val
  rw [Fin.sub_def]
  simp only
  rw [Nat.add_comm]
  exact h3
theorem rsmallF (n : Nat) (hn : n < 4294967296) (w : World) :
    Calls Tryz.prog 76 #[.int .i64 (n : Int)] w fun e w' => Below w.heap.size w w' ∧ ∃ r, e = .returned r ∧ DF w' r (toF n) := by
  refine (rfsmall_any n hn w).mono fun _ _ h => ?_
  obtain ⟨h1, r, h2, h3⟩ := h
  refine ⟨h1, r, h2, ?_⟩
  show DS _ _ _ _ (n % MSE.Q)
  rw [Nat.mod_eq_of_lt (Nat.lt_trans hn (by decide))]
  exact h3

set_option maxRecDepth 1000000 in
set_option maxHeartbeats 2000000 in
theorem rtwice_any (x z : MSE.F) (vx vz : Value) (w : World) (hx : DF w vx x) (hz : DF w vz z) :
    Calls Tryz.prog 78 #[vx, vz] w fun e w' => Below w.heap.size w w' ∧ ∃ r s, e = .returned (.tuple #[r, s]) ∧ DF w' r ((MSE.dblF (x, z)).1) ∧ DF w' s ((MSE.dblF (x, z)).2) := by
  have Dx := Lib.hid hx
  have Dz := Lib.hid hz
  clear hx hz
  have B0 := Lib.hid (Below.refl w.heap.size w)
  go_enter Tryz.func78, Tryz.ntmps78
  go_wp2_with fail
  refine (raddF _ _ _ _ _ Dx.out Dz.out).mono ?_
  rintro e w0 ⟨hb, rs, rfl, hd⟩
  have B1 := Lib.hid (B0.out.trans (hb.mono B0.out.size))
  have E0x := Lib.hid (Dx.out.on hb)
  have E0z := Lib.hid (Dz.out.on hb)
  have D0s := Lib.hid hd
  clear hb hd B0 Dx Dz
  go_wp2_with fail
  refine (rsubF _ _ _ _ _ E0x.out E0z.out).mono ?_
  rintro e w1 ⟨hb, rd, rfl, hd⟩
  have B2 := Lib.hid (B1.out.trans (hb.mono B1.out.size))
  have E1s := Lib.hid (D0s.out.on hb)
  have D1d := Lib.hid hd
  clear hb hd B1 E0x E0z D0s
  go_wp2_with fail
  refine (rmulF _ _ _ _ _ E1s.out E1s.out).mono ?_
  rintro e w2 ⟨hb, ra, rfl, hd⟩
  have B3 := Lib.hid (B2.out.trans (hb.mono B2.out.size))
  have E2d := Lib.hid (D1d.out.on hb)
  have D2a := Lib.hid hd
  clear hb hd B2 E1s D1d
  go_wp2_with fail
  refine (rmulF _ _ _ _ _ E2d.out E2d.out).mono ?_
  rintro e w3 ⟨hb, rb, rfl, hd⟩
  have B4 := Lib.hid (B3.out.trans (hb.mono B3.out.size))
  have E3a := Lib.hid (D2a.out.on hb)
  have D3b := Lib.hid hd
  clear hb hd B3 E2d D2a
  go_wp2_with fail
  refine (rsubF _ _ _ _ _ E3a.out D3b.out).mono ?_
  rintro e w4 ⟨hb, re, rfl, hd⟩
  have B5 := Lib.hid (B4.out.trans (hb.mono B4.out.size))
  have E4a := Lib.hid (E3a.out.on hb)
  have E4b := Lib.hid (D3b.out.on hb)
  have D4e := Lib.hid hd
  clear hb hd B4 E3a D3b
  go_wp2_with fail
  refine (rmulF _ _ _ _ _ E4a.out E4b.out).mono ?_
  rintro e w5 ⟨hb, rX, rfl, hd⟩
  have B6 := Lib.hid (B5.out.trans (hb.mono B5.out.size))
  have E5a := Lib.hid (E4a.out.on hb)
  have E5e := Lib.hid (D4e.out.on hb)
  have D5X := Lib.hid hd
  clear hb hd B5 E4a E4b D4e
  go_wp2_with fail
  refine (rsmallF 121665 (by decide) _).mono ?_
  rintro e w6 ⟨hb, rk, rfl, hd⟩
  have B7 := Lib.hid (B6.out.trans (hb.mono B6.out.size))
  have E6a := Lib.hid (E5a.out.on hb)
  have E6e := Lib.hid (E5e.out.on hb)
  have E6X := Lib.hid (D5X.out.on hb)
  have D6k := Lib.hid hd
  clear hb hd B6 E5a E5e D5X
  go_wp2_with fail
  refine (rmulF _ _ _ _ _ D6k.out E6e.out).mono ?_
  rintro e w7 ⟨hb, rf, rfl, hd⟩
  have B8 := Lib.hid (B7.out.trans (hb.mono B7.out.size))
  have E7a := Lib.hid (E6a.out.on hb)
  have E7e := Lib.hid (E6e.out.on hb)
  have E7X := Lib.hid (E6X.out.on hb)
  have D7f := Lib.hid hd
  clear hb hd B7 E6a E6e E6X D6k
  go_wp2_with fail
  refine (raddF _ _ _ _ _ E7a.out D7f.out).mono ?_
  rintro e w8 ⟨hb, rg, rfl, hd⟩
  have B9 := Lib.hid (B8.out.trans (hb.mono B8.out.size))
  have E8e := Lib.hid (E7e.out.on hb)
  have E8X := Lib.hid (E7X.out.on hb)
  have D8g := Lib.hid hd
  clear hb hd B8 E7a E7e E7X D7f
  go_wp2_with fail
  refine (rmulF _ _ _ _ _ E8e.out D8g.out).mono ?_
  rintro e w9 ⟨hb, rZ, rfl, hd⟩
  have B10 := Lib.hid (B9.out.trans (hb.mono B9.out.size))
  have E9X := Lib.hid (E8X.out.on hb)
  have D9Z := Lib.hid hd
  clear hb hd B9 E8e E8X D8g
  go_wp2_with fail
  go_ret2
  refine ⟨B10.out, _, _, rfl, ?_, ?_⟩
  · exact E9X.out
  · have h := D9Z.out
    rw [show toF 121665 = 121665 from rfl, Fin.mul_comm 121665] at h
    exact h

set_option maxRecDepth 1000000 in
set_option maxHeartbeats 2000000 in
theorem rboth_any (x z X Z u : MSE.F) (vx vz vX vZ vu : Value) (w : World) (hx : DF w vx x) (hz : DF w vz z) (hX : DF w vX X) (hZ : DF w vZ Z) (hu : DF w vu u) :
    Calls Tryz.prog 77 #[vx, vz, vX, vZ, vu] w fun e w' => Below w.heap.size w w' ∧ ∃ r s, e = .returned (.tuple #[r, s]) ∧ DF w' r ((MSE.addF u (x, z) (X, Z)).1) ∧ DF w' s ((MSE.addF u (x, z) (X, Z)).2) := by
  have Dx := Lib.hid hx
  have Dz := Lib.hid hz
  have DX := Lib.hid hX
  have DZ := Lib.hid hZ
  have Du := Lib.hid hu
  clear hx hz hX hZ hu
  have B0 := Lib.hid (Below.refl w.heap.size w)
  go_enter Tryz.func77, Tryz.ntmps77
  go_wp2_with fail
  refine (rsubF _ _ _ _ _ DX.out DZ.out).mono ?_
  rintro e w0 ⟨hb, ra, rfl, hd⟩
  have B1 := Lib.hid (B0.out.trans (hb.mono B0.out.size))
  have E0x := Lib.hid (Dx.out.on hb)
  have E0z := Lib.hid (Dz.out.on hb)
  have E0X := Lib.hid (DX.out.on hb)
  have E0Z := Lib.hid (DZ.out.on hb)
  have E0u := Lib.hid (Du.out.on hb)
  have D0a := Lib.hid hd
  clear hb hd B0 Dx Dz DX DZ Du
  go_wp2_with fail
  refine (raddF _ _ _ _ _ E0x.out E0z.out).mono ?_
  rintro e w1 ⟨hb, rb, rfl, hd⟩
  have B2 := Lib.hid (B1.out.trans (hb.mono B1.out.size))
  have E1x := Lib.hid (E0x.out.on hb)
  have E1z := Lib.hid (E0z.out.on hb)
  have E1X := Lib.hid (E0X.out.on hb)
  have E1Z := Lib.hid (E0Z.out.on hb)
  have E1u := Lib.hid (E0u.out.on hb)
  have E1a := Lib.hid (D0a.out.on hb)
  have D1b := Lib.hid hd
  clear hb hd B1 E0x E0z E0X E0Z E0u D0a
  go_wp2_with fail
  refine (rmulF _ _ _ _ _ E1a.out D1b.out).mono ?_
  rintro e w2 ⟨hb, rm, rfl, hd⟩
  have B3 := Lib.hid (B2.out.trans (hb.mono B2.out.size))
  have E2x := Lib.hid (E1x.out.on hb)
  have E2z := Lib.hid (E1z.out.on hb)
  have E2X := Lib.hid (E1X.out.on hb)
  have E2Z := Lib.hid (E1Z.out.on hb)
  have E2u := Lib.hid (E1u.out.on hb)
  have D2m := Lib.hid hd
  clear hb hd B2 E1x E1z E1X E1Z E1u E1a D1b
  go_wp2_with fail
  refine (raddF _ _ _ _ _ E2X.out E2Z.out).mono ?_
  rintro e w3 ⟨hb, rc, rfl, hd⟩
  have B4 := Lib.hid (B3.out.trans (hb.mono B3.out.size))
  have E3x := Lib.hid (E2x.out.on hb)
  have E3z := Lib.hid (E2z.out.on hb)
  have E3u := Lib.hid (E2u.out.on hb)
  have E3m := Lib.hid (D2m.out.on hb)
  have D3c := Lib.hid hd
  clear hb hd B3 E2x E2z E2X E2Z E2u D2m
  go_wp2_with fail
  refine (rsubF _ _ _ _ _ E3x.out E3z.out).mono ?_
  rintro e w4 ⟨hb, rd, rfl, hd⟩
  have B5 := Lib.hid (B4.out.trans (hb.mono B4.out.size))
  have E4u := Lib.hid (E3u.out.on hb)
  have E4m := Lib.hid (E3m.out.on hb)
  have E4c := Lib.hid (D3c.out.on hb)
  have D4d := Lib.hid hd
  clear hb hd B4 E3x E3z E3u E3m D3c
  go_wp2_with fail
  refine (rmulF _ _ _ _ _ E4c.out D4d.out).mono ?_
  rintro e w5 ⟨hb, rn, rfl, hd⟩
  have B6 := Lib.hid (B5.out.trans (hb.mono B5.out.size))
  have E5u := Lib.hid (E4u.out.on hb)
  have E5m := Lib.hid (E4m.out.on hb)
  have D5n := Lib.hid hd
  clear hb hd B5 E4u E4m E4c D4d
  go_wp2_with fail
  refine (raddF _ _ _ _ _ E5m.out D5n.out).mono ?_
  rintro e w6 ⟨hb, rs, rfl, hd⟩
  have B7 := Lib.hid (B6.out.trans (hb.mono B6.out.size))
  have E6u := Lib.hid (E5u.out.on hb)
  have E6m := Lib.hid (E5m.out.on hb)
  have E6n := Lib.hid (D5n.out.on hb)
  have D6s := Lib.hid hd
  clear hb hd B6 E5u E5m D5n
  go_wp2_with fail
  refine (rsubF _ _ _ _ _ E6m.out E6n.out).mono ?_
  rintro e w7 ⟨hb, rt, rfl, hd⟩
  have B8 := Lib.hid (B7.out.trans (hb.mono B7.out.size))
  have E7u := Lib.hid (E6u.out.on hb)
  have E7s := Lib.hid (D6s.out.on hb)
  have D7t := Lib.hid hd
  clear hb hd B7 E6u E6m E6n D6s
  go_wp2_with fail
  refine (rmulF _ _ _ _ _ E7s.out E7s.out).mono ?_
  rintro e w8 ⟨hb, rP, rfl, hd⟩
  have B9 := Lib.hid (B8.out.trans (hb.mono B8.out.size))
  have E8u := Lib.hid (E7u.out.on hb)
  have E8t := Lib.hid (D7t.out.on hb)
  have D8P := Lib.hid hd
  clear hb hd B8 E7u E7s D7t
  go_wp2_with fail
  refine (rmulF _ _ _ _ _ E8t.out E8t.out).mono ?_
  rintro e w9 ⟨hb, rq, rfl, hd⟩
  have B10 := Lib.hid (B9.out.trans (hb.mono B9.out.size))
  have E9u := Lib.hid (E8u.out.on hb)
  have E9P := Lib.hid (D8P.out.on hb)
  have D9q := Lib.hid hd
  clear hb hd B9 E8u E8t D8P
  go_wp2_with fail
  refine (rmulF _ _ _ _ _ E9u.out D9q.out).mono ?_
  rintro e w10 ⟨hb, rR, rfl, hd⟩
  have B11 := Lib.hid (B10.out.trans (hb.mono B10.out.size))
  have E10P := Lib.hid (E9P.out.on hb)
  have D10R := Lib.hid hd
  clear hb hd B10 E9u E9P D9q
  go_wp2_with fail
  go_ret2
  refine ⟨B11.out, _, _, rfl, ?_, ?_⟩
  · exact E10P.out
  · exact D10R.out
end Go.Proofs.YtfckjilhkdlpfaaGreatDoor

namespace Go.Proofs.YtfckjilhkdlpfaaGreatDoor
open Go.RowKit MS
section
variable {P : Program} {ops : Array Oper} {Q : Exit → Act → World → Prop}
theorem wpOp_call {i d f : Nat} {o : Oper} {args : Array Value} {K : Act → World → Prop} {a : Act} {w : World} (hi : ops[i]? = some o) (hw : Region.wanted o (yielded ops a.tmps) = true) (hd : o.dst = some d)
    (hrun : (execOp a.eval o).run P w = .ok (.enter f args) w) (hc : Calls P f args w fun e w' => ∃ v, e = .returned v ∧ K (a.put (some d) v) w') : wpOp P ops Q i K a w := by
  unfold wpOp
  simp only [hi]
  rw [if_pos hw]
  refine .inl ?_
  unfold Oper.wp
  rw [hrun]
  simp only [Oper.upon]
  refine hc.mono ?_
  rintro e w' ⟨v, rfl, h⟩
  rw [hd]
  exact h
theorem run_load_row {ρ : Operand → Value} {o : Oper} {w : World} (ty : TypeId) (x : Operand) (ho : o.op = .load ty x) (g : Nat) (hx : ρ x = .pointer (some ⟨g, 0, none⟩)) (t : TypeId) (cs : Array Value) (fr : Nat × Nat) (d : TypeDesc) (hC : w.heap[g]? = some (.cells cs t fr))
    (hu : P.underlying ty = some d) (hd : (match d with | .struct _ | .array _ _ => true | _ => false) = true) (hi : (P.info? ty).map (·.size) = some cs.size) : (execOp ρ o).run P w = .ok (.value (.agg cs)) w := by
  unfold execOp
  simp only [ho, hx, Instr.loadAt, Instr.sureAddr, Sem.run_bind, Sem.run_pure, Result.andThen_ok, run_loadVar_row w g t ty cs fr d hC hu hd hi]

end
end Go.Proofs.YtfckjilhkdlpfaaGreatDoor

namespace Go.Proofs.YtfckjilhkdlpfaaGreatDoor
open Go.RowKit MS
section
variable {P : Program} {ops : Array Oper} {Q : Exit → Act → World → Prop} {md : Region.Mode}
/-- What has come up behind k1 and k2 steps. -/
def lst (L : Array Bool) (l1 l2 : List Nat) (k1 k2 : Nat) : Array Bool := (l2.take k2).foldl (fun a i => a.setIfInBounds i true) ((l1.take k1).foldl (fun a i => a.setIfInBounds i true) L)
def twoB (md : Region.Mode) (ops : Array Oper) (L : Array Bool) (l1 l2 : List Nat) : Bool :=
  (List.range (l1.length + 1)).all fun k1 => (List.range (l2.length + 1)).all fun k2 => (decide (k1 = l1.length) && decide (k2 = l2.length)) ||
    (!(Region.ready md ops (lst L l1 l2 k1 k2)).isEmpty && (Region.ready md ops (lst L l1 l2 k1 k2)).all fun j =>
      (decide (k1 < l1.length) && decide (j = l1.getD k1 0) && decide ((lst L l1 l2 k1 k2).setIfInBounds j true = lst L l1 l2 (k1 + 1) k2)) ||
      (decide (k2 < l2.length) && decide (j = l2.getD k2 0) && decide ((lst L l1 l2 k1 k2).setIfInBounds j true = lst L l1 l2 k1 (k2 + 1))))

theorem two_chains {L : Array Bool} {f : Nat} (l1 l2 : List Nat) (J : Nat → Nat → Act → World → Prop) (hB : twoB md ops L l1 l2 = true)
    (s1 : ∀ k1 k2 a w, k1 < l1.length → k2 ≤ l2.length → J k1 k2 a w → wpOp P ops Q (l1.getD k1 0) (J (k1 + 1) k2) a w)
    (s2 : ∀ k1 k2 a w, k1 ≤ l1.length → k2 < l2.length → J k1 k2 a w → wpOp P ops Q (l2.getD k2 0) (J k1 (k2 + 1)) a w)
    (hend : ∀ a w, J l1.length l2.length a w → wpAny P md ops Q f (lst L l1 l2 l1.length l2.length) a w) :
    ∀ m k1 k2 a w, (l1.length - k1) + (l2.length - k2) = m → k1 ≤ l1.length → k2 ≤ l2.length → J k1 k2 a w → wpAny P md ops Q (m + f) (lst L l1 l2 k1 k2) a w := by
  have hB' : ∀ k1 k2, k1 ≤ l1.length → k2 ≤ l2.length → ¬ (k1 = l1.length ∧ k2 = l2.length) → Region.ready md ops (lst L l1 l2 k1 k2) ≠ [] ∧ ∀ j ∈ Region.ready md ops (lst L l1 l2 k1 k2),
      (k1 < l1.length ∧ j = l1.getD k1 0 ∧ (lst L l1 l2 k1 k2).setIfInBounds j true = lst L l1 l2 (k1 + 1) k2) ∨ (k2 < l2.length ∧ j = l2.getD k2 0 ∧ (lst L l1 l2 k1 k2).setIfInBounds j true = lst L l1 l2 k1 (k2 + 1)) := by
    intro k1 k2 h1 h2 hne
    have h := List.all_eq_true.1 (List.all_eq_true.1 hB k1 (List.mem_range.2 (by omega))) k2 (List.mem_range.2 (by omega))
    simp only [Bool.or_eq_true, Bool.and_eq_true, decide_eq_true_eq, Bool.not_eq_true', List.all_eq_true] at h
    rcases h with h | h
    · exact absurd h hne
    · refine ⟨fun e => ?_, fun j hj => ?_⟩
      · rw [e] at h
        simp at h
      · rcases h.2 j hj with h3 | h3
        · exact .inl ⟨h3.1.1, h3.1.2, h3.2⟩
        · exact .inr ⟨h3.1.1, h3.1.2, h3.2⟩
  intro m
  induction m with
  | zero =>
    intro k1 k2 a w hm h1 h2 hJ
    have e1 : k1 = l1.length := by omega
    have e2 : k2 = l2.length := by omega
    subst e1 e2
    rw [Nat.zero_add]
    exact hend a w hJ
  | succ m ih =>
    intro k1 k2 a w hm h1 h2 hJ
    obtain ⟨hne, hall⟩ := hB' k1 k2 h1 h2 (by omega)
    rw [show m + 1 + f = (m + f) + 1 by omega]
    refine ⟨fun h0 => absurd h0 hne, fun j hj => ?_⟩
    rcases hall j hj with ⟨hk, rfl, he⟩ | ⟨hk, rfl, he⟩
    · refine wpOp_mono (fun a' w' hJ' => ?_) (s1 k1 k2 a w hk h2 hJ)
      rw [he]
      exact ih (k1 + 1) k2 a' w' (by omega) (by omega) h2 hJ'
    · refine wpOp_mono (fun a' w' hJ' => ?_) (s2 k1 k2 a w h1 hk hJ)
      rw [he]
      exact ih k1 (k2 + 1) a' w' (by omega) h1 (by omega) hJ'
theorem wpOp_val {i d : Nat} {o : Oper} {v : Value} {K : Act → World → Prop} {a : Act} {w : World} (hi : ops[i]? = some o) (hw : Region.wanted o (yielded ops a.tmps) = true) (hd : o.dst = some d)
    (hrun : (execOp a.eval o).run P w = .ok (.value v) w) (h : K (a.put (some d) v) w) : wpOp P ops Q i K a w := by
  unfold wpOp
  simp only [hi]
  rw [if_pos hw]
  refine .inl ?_
  unfold Oper.wp
  rw [hrun]
  simp only [Oper.upon, hd]
  exact h
end
end Go.Proofs.YtfckjilhkdlpfaaGreatDoor

namespace Go.Proofs.YtfckjilhkdlpfaaGreatDoor
open Go.RowKit MS
theorem vls_getL (l : List UInt8) (i : Nat) (h : i < l.length) : (vls l)[i]? = some (.int .u8 ((l.getD i 0).toNat : Int)) := by simp [vls, valB, h]
def clampL (l : List UInt8) : List UInt8 := (l.set 0 (UInt8.ofNat ((l.getD 0 0).toNat - (l.getD 0 0).toNat % 8))).set 31 (UInt8.ofNat ((l.getD 31 0).toNat % 64 + 64))
def clampB (s : ByteArray) : ByteArray := bs (clampL (ls s))
theorem length_clampL (l : List UInt8) : (clampL l).length = l.length := by simp [clampL]
theorem and248 : ∀ n : Fin 256, bits .and .u8 ((n.val : Nat) : Int) 248 = ((UInt8.ofNat (n.val - n.val % 8)).toNat : Int) := by decide +kernel
theorem and127 : ∀ n : Fin 256, bits .or .u8 (bits .and .u8 ((n.val : Nat) : Int) 127) 64 = ((UInt8.ofNat (n.val % 64 + 64)).toNat : Int) := by decide +kernel

set_option maxRecDepth 1000000 in
set_option maxHeartbeats 1000000 in
theorem clamp_no (s : ByteArray) (w : World) (hs : s.size ≠ 32) : Calls Tryz.prog 67 #[.string s] w fun e w' => e = .returned (.tuple #[.string ⟨#[]⟩, .bool false]) ∧ Below w.heap.size w w' := by
  have h1 : ¬ (s.size : Int) = 32 := by omega
  have h2 : ((s.size : Int) != 32) = true := by simp; omega
  clear hs
  go_enter Tryz.func67, Tryz.ntmps67
  go_wp2_with fail
  go_ret2
  exact ⟨rfl, Below.refl _ _⟩

set_option maxRecDepth 1000000 in
set_option maxHeartbeats 1000000 in
theorem clamp_yes (s : ByteArray) (w : World) (hs : s.size = 32) : Calls Tryz.prog 67 #[.string s] w fun e w' => e = .returned (.tuple #[.string (clampB s), .bool true]) ∧ Below w.heap.size w w' := by
  have h1 : (s.size : Int) = 32 := by omega
  have h2 : ((s.size : Int) != 32) = false := by simp; omega
  have hl : (ls s).length = 32 := by rw [length_ls]; exact hs
  have B0 := Lib.hid (Below.refl w.heap.size w)
  have HL := Lib.hid hl
  have HS := Lib.hid hs
  have HC := Lib.hid (show clampB s = bs (((ls s).set 0 (UInt8.ofNat (((ls s).getD 0 0).toNat - ((ls s).getD 0 0).toNat % 8))).set 31 (UInt8.ofNat (((ls s).getD 31 0).toNat % 64 + 64))) from rfl)
  generalize clampB s = R at HC ⊢
  clear hs hl
  go_enter Tryz.func67, Tryz.ntmps67
  go_wp2_with (refine wpList_conv_own rfl (.tmp 8) 9 83 5 rfl s rfl Tryz.underlying9 Tryz.underlying83 Tryz.underlying5 w.heap.size 32 HS.out (Nat.le_refl _) (by decide) ?_)
  intro g cap w3 o3 hb3
  have O3 := Lib.hid (show ownsF w3 w.heap.size 5 (.slice (some ⟨g, 0, none⟩) 32 cap) 32 (vls (ls s)) from o3)
  have B3 := Lib.hid hb3
  clear o3 hb3
  have c0 := O3.out.cell 0 (by decide)
  have c31 := O3.out.cell 31 (by decide)
  have f0 := O3.out.free 0 (by decide)
  have f31 := O3.out.free 31 (by decide)
  rw [vls_getL _ _ (by rw [HL.out]; decide)] at c0 c31
  have e0 := and248 ⟨((ls s).getD 0 0).toNat, UInt8.toNat_lt _⟩
  have e1 := and127 ⟨((ls s).getD 31 0).toNat, UInt8.toNat_lt _⟩
  simp only at e0 e1
  have hp := ((O3.out.put 0 (.int .u8 ((UInt8.ofNat (((ls s).getD 0 0).toNat - ((ls s).getD 0 0).toNat % 8)).toNat : Int))).put 31 (.int .u8 (bits .and .u8 (((ls s).getD 31 0).toNat : Int) 127))).put 31 (.int .u8 ((UInt8.ofNat (((ls s).getD 31 0).toNat % 64 + 64)).toNat : Int))
  rw [List.set_set] at hp
  have hconv := ownsF_conv _ w.heap.size 83 9 5 Tryz.underlying83 Tryz.underlying5 Tryz.underlying9 (l := ((ls s).set 0 (UInt8.ofNat (((ls s).getD 0 0).toNat - ((ls s).getD 0 0).toNat % 8))).set 31 (UInt8.ofNat (((ls s).getD 31 0).toNat % 64 + 64))) (by rw [List.map_set, List.map_set]; exact hp) 0 32 cap (by decide)
  rw [List.drop_zero, List.take_of_length_le (by rw [List.length_set, List.length_set, HL.out]; decide), ← HC.out] at hconv
  have hge := O3.out.ge
  have HBE := Lib.hid (((B3.out.setCell (p := ⟨g, 0, none⟩) hge (.int .u8 ((UInt8.ofNat (((ls s).getD 0 0).toNat - ((ls s).getD 0 0).toNat % 8)).toNat : Int))).setCell (p := ⟨g, 31, none⟩) hge (.int .u8 (bits .and .u8 (((ls s).getD 31 0).toNat : Int) 127))).setCell (p := ⟨g, 31, none⟩) hge (.int .u8 ((UInt8.ofNat (((ls s).getD 31 0).toNat % 64 + 64)).toNat : Int)))
  generalize (UInt8.ofNat (((ls s).getD 31 0).toNat % 64 + 64)).toNat = y31 at *
  generalize (UInt8.ofNat (((ls s).getD 0 0).toNat - ((ls s).getD 0 0).toNat % 8)).toNat = y0 at *
  generalize ((ls s).getD 31 0).toNat = x31 at *
  generalize ((ls s).getD 0 0).toNat = x0 at *
  clear hp hge
  go_wp2_with fail
  go_ret2
  exact ⟨rfl, HBE.out⟩

theorem clampB_parts (s : ByteArray) (hs : s.size = 32) : bs [UInt8.ofNat (((ls s).getD 0 0).toNat - ((ls s).getD 0 0).toNat % 8)] ++ s.extract 1 31 ++ bs [UInt8.ofNat (((ls s).getD 31 0).toNat % 64 + 64)] = clampB s := by
  have hl : (ls s).length = 32 := by rw [length_ls]; exact hs
  apply ls_inj
  rw [ls_append, ls_append, ls_extract, clampB, ls_bs, ls_bs, ls_bs]
  unfold clampL
  generalize ls s = l at hl
  match l, hl with
  | [a0, a1, a2, a3, a4, a5, a6, a7, a8, a9, a10, a11, a12, a13, a14, a15, a16, a17, a18, a19, a20, a21, a22, a23, a24, a25, a26, a27, a28, a29, a30, a31], _ => rfl

def q1 (c1 c2 : Value) : Nat → Value → Act → Act
  | 0, _, a => a
  | 1, s, a => a.put (some 16) s
  | 2, s, a => (a.put (some 16) s).put (some 17) c1
  | _, s, a => ((a.put (some 16) s).put (some 17) c1).put (some 20) c2
def q2 (c : Value) : Nat → Value → Act → Act
  | 0, _, a => a
  | 1, s, a => a.put (some 25) s
  | _, s, a => (a.put (some 25) s).put (some 26) c
theorem put_swap (a : Act) (x y : Nat) (v u : Value) (h : x ≠ y) : (a.put (some x) v).put (some y) u = (a.put (some y) u).put (some x) v := Act.put_comm a v u (by intro d hd e; cases hd; cases e; exact h rfl)
theorem q2_put (c s v : Value) (k d : Nat) (a : Act) (h1 : 25 ≠ d) (h2 : 26 ≠ d) : (q2 c k s a).put (some d) v = q2 c k s (a.put (some d) v) := by
  match k with
  | 0 => rfl
  | 1 => exact put_swap _ _ _ _ _ h1
  | k + 2 =>
    show ((a.put (some 25) s).put (some 26) c).put (some d) v = ((a.put (some d) v).put (some 25) s).put (some 26) c
    rw [put_swap _ _ _ _ _ h2, put_swap _ _ _ _ _ h1]
theorem q2_eval (c s : Value) (k j : Nat) (a : Act) (h1 : 25 ≠ j) (h2 : 26 ≠ j) : (q2 c k s a).eval (.tmp j) = a.eval (.tmp j) := by
  match k with
  | 0 => rfl
  | 1 => exact Act.eval_put_ne _ _ _ _ h1
  | k + 2 =>
    show ((a.put (some 25) s).put (some 26) c).eval (.tmp j) = a.eval (.tmp j)
    rw [Act.eval_put_ne _ _ _ _ h2, Act.eval_put_ne _ _ _ _ h1]
theorem q1_eval (c1 c2 s : Value) (k j : Nat) (a : Act) (h1 : 16 ≠ j) (h2 : 17 ≠ j) (h3 : 20 ≠ j) : (q1 c1 c2 k s a).eval (.tmp j) = a.eval (.tmp j) := by
  match k with
  | 0 => rfl
  | 1 => exact Act.eval_put_ne _ _ _ _ h1
  | 2 =>
    show ((a.put (some 16) s).put (some 17) c1).eval (.tmp j) = a.eval (.tmp j)
    rw [Act.eval_put_ne _ _ _ _ h2, Act.eval_put_ne _ _ _ _ h1]
  | k + 3 =>
    show (((a.put (some 16) s).put (some 17) c1).put (some 20) c2).eval (.tmp j) = a.eval (.tmp j)
    rw [Act.eval_put_ne _ _ _ _ h3, Act.eval_put_ne _ _ _ _ h2, Act.eval_put_ne _ _ _ _ h1]
theorem put_sz (a : Act) (d : Option Nat) (v : Value) : (a.put d v).tmps.size = a.tmps.size := by cases d <;> simp [Act.put]
theorem q1_size (c1 c2 s : Value) (k : Nat) (a : Act) : (q1 c1 c2 k s a).tmps.size = a.tmps.size := by
  match k with
  | 0 => rfl
  | 1 => exact put_sz _ _ _
  | 2 => simp only [q1, put_sz]
  | k + 3 => simp only [q1, put_sz]

/-- The last statement of Clamp, its pure operations behind it: two strings of one byte each are made, in whatever order, and joined. -/
theorem clamp_region {ops : Array Oper} {Q : Exit → Act → World → Prop} {A : Act} {w w0 : World} {o5 o6 o9 o14 o15 o16 o17 : Oper} {x y : UInt8} {m : ByteArray} {L : Array Bool}
    (h5 : ops[5]? = some o5) (h6 : ops[6]? = some o6) (h9 : ops[9]? = some o9) (h14 : ops[14]? = some o14) (h15 : ops[15]? = some o15) (h16 : ops[16]? = some o16) (h17 : ops[17]? = some o17)
    (g5 : o5.guard = none) (g6 : o6.guard = none) (g9 : o9.guard = none) (g14 : o14.guard = none) (g15 : o15.guard = none) (g16 : o16.guard = none) (g17 : o17.guard = none)
    (d5 : o5.dst = some 16) (d6 : o6.dst = some 17) (d9 : o9.dst = some 20) (d14 : o14.dst = some 25) (d15 : o15.dst = some 26) (d16 : o16.dst = some 27) (d17 : o17.dst = some 2)
    (p5 : o5.op = .buildSlice 83 1 #[(0, .tmp 15)]) (p6 : o6.op = .convert 83 9 (.tmp 16)) (p9 : o9.op = .binOp .add 9 (.tmp 17) (.tmp 19) 9)
    (p14 : o14.op = .buildSlice 83 1 #[(0, .tmp 24)]) (p15 : o15.op = .convert 83 9 (.tmp 25)) (p16 : o16.op = .binOp .add 9 (.tmp 20) (.tmp 26) 9) (p17 : o17.op = .assign (.tmp 27))
    (hB : twoB .any ops L [5, 6, 9] [14, 15] = true) (r1 : Region.ready .any ops (lst L [5, 6, 9] [14, 15] 3 2) = [16]) (r2 : Region.ready .any ops ((lst L [5, 6, 9] [14, 15] 3 2).setIfInBounds 16 true) = [17])
    (r3 : Region.ready .any ops (((lst L [5, 6, 9] [14, 15] 3 2).setIfInBounds 16 true).setIfInBounds 17 true) = []) (hsz : 28 ≤ A.tmps.size)
    (hx : A.eval (.tmp 15) = .int .u8 (x.toNat : Int)) (hy : A.eval (.tmp 24) = .int .u8 (y.toNat : Int)) (hm : A.eval (.tmp 19) = .string m) (hms : m.size ≤ 1000) (hb : Below w0.heap.size w0 w)
    (hK : ∀ s16 s25 w', Below w0.heap.size w0 w' → Q .normal (((((((A.put (some 16) s16).put (some 17) (.string (bs [x]))).put (some 20) (.string (bs [x] ++ m))).put (some 25) s25).put (some 26) (.string (bs [y]))).put (some 27) (.string (bs [x] ++ m ++ bs [y]))).put (some 2) (.string (bs [x] ++ m ++ bs [y]))) w') :
    wpAny Tryz.prog .any ops Q 7 (lst L [5, 6, 9] [14, 15] 0 0) A w := by
  have same : ∀ (a : Act) (d : Nat) v, d < a.tmps.size → (a.put (some d) v).eval (.tmp d) = v := Act.eval_put_same
  have wn : ∀ (o : Oper) (a : Act), o.guard = none → Region.wanted o (yielded ops a.tmps) = true := fun o a h => by simp [Region.wanted, h]
  have cv : ∀ (w' : World) (g : Nat) (b : UInt8), w'.heap[g]? = some (.cells #[.int .u8 (b.toNat : Int)] 5 (0, 0)) → (convert 83 9 (.slice (some ⟨g, 0, none⟩) 1 1)).run Tryz.prog w' = .ok (.string (bs [b])) w' := fun w' g b hr =>
    run_block_to_string w' 83 9 5 Tryz.underlying83 Tryz.underlying5 Tryz.underlying9 g 1 1 5 (0, 0) [b] _ hr rfl (fun j hj => by
      have h0 : j = 0 := by simpa using hj
      subst h0
      rfl)
  have ad : ∀ (o : Oper) (a : Act) (p q : Nat) (b c : ByteArray) (w' : World), o.op = .binOp .add 9 (.tmp p) (.tmp q) 9 → a.eval (.tmp p) = .string b → a.eval (.tmp q) = .string c → b.size ≤ 2000 → c.size ≤ 2000 → (execOp a.eval o).run Tryz.prog w' = .ok (.value (.string (b ++ c))) w' := fun o a p q b c w' ho hp hq k1 k2 => by
    have k3 : (b.size : Int) + c.size ≤ 4000 := by omega
    unfold execOp
    simp only [ho, hp, hq]
    go_simp
    omega
  let c1 : Value := .string (bs [x])
  let c2 : Value := .string (bs [x] ++ m)
  let cc : Value := .string (bs [y])
  refine two_chains (f := 2) [5, 6, 9] [14, 15] (fun k1 k2 a w' => ∃ s16 s25, a = q2 cc k2 s25 (q1 c1 c2 k1 s16 A) ∧ Below w0.heap.size w0 w' ∧ (k1 = 1 → ∃ g, s16 = .slice (some ⟨g, 0, none⟩) 1 1 ∧ w'.heap[g]? = some (.cells #[.int .u8 (x.toNat : Int)] 5 (0, 0))) ∧
    (k2 = 1 → ∃ g, s25 = .slice (some ⟨g, 0, none⟩) 1 1 ∧ w'.heap[g]? = some (.cells #[.int .u8 (y.toNat : Int)] 5 (0, 0)))) hB ?_ ?_ ?_ 5 0 0 A w rfl (by decide) (by decide) ⟨undef, undef, rfl, hb, fun h => absurd h (by decide), fun h => absurd h (by decide)⟩
  · intro k1 k2 a w' hk1 hk2 ⟨s16, s25, ha, hb', f1, f2⟩
    have keep : ∀ (g : Nat) (o o' : Obj), w'.heap[g]? = some o → (w'.alloc o').heap[g]? = some o := fun g o o' h => by rw [heap_alloc_old _ _ (Array.getElem?_eq_some_iff.1 h).1]; exact h
    match k1, hk1 with
    | 0, _ =>
      refine wpOp_build1 (u := .int .u8 (x.toNat : Int)) h5 g5 d5 p5 (run_build_u8 _ _ rfl) (by rw [ha, q2_eval _ _ _ _ _ (by decide) (by decide)]; exact hx) ⟨.slice (some ⟨w'.heap.size, 0, none⟩) 1 1, s25, ?_, below_alloc hb' _, fun _ => ⟨_, rfl, heap_alloc_new _ _⟩, fun h => ?_⟩
      · rw [ha, q2_put _ _ _ _ _ _ (by decide) (by decide)]
        rfl
      · obtain ⟨g, e1, e2⟩ := f2 h
        exact ⟨g, e1, keep _ _ _ e2⟩
    | 1, _ =>
      obtain ⟨g, e1, e2⟩ := f1 rfl
      have hev : a.eval (.tmp 16) = .slice (some ⟨g, 0, none⟩) 1 1 := by
        rw [ha, q2_eval _ _ _ _ _ (by decide) (by decide), ← e1]
        exact same _ _ _ (by omega)
      refine wpOp_val (v := c1) h6 (wn _ _ g6) d6 (by unfold execOp; simp only [p6, hev]; rw [Sem.run_bind, cv _ _ _ e2]; rfl) ⟨s16, s25, ?_, hb', fun h => absurd h (by decide), f2⟩
      rw [ha, q2_put _ _ _ _ _ _ (by decide) (by decide)]
      rfl
    | 2, _ =>
      have hev : a.eval (.tmp 17) = .string (bs [x]) := by
        rw [ha, q2_eval _ _ _ _ _ (by decide) (by decide)]
        exact same _ _ _ (by rw [put_sz]; omega)
      have hev2 : a.eval (.tmp 19) = .string m := by
        rw [ha, q2_eval _ _ _ _ _ (by decide) (by decide), q1_eval _ _ _ _ _ _ (by decide) (by decide) (by decide)]
        exact hm
      refine wpOp_val (v := c2) h9 (wn _ _ g9) d9 (ad _ _ _ _ _ _ _ p9 hev hev2 (by rw [size_bs]; simp) (by omega)) ⟨s16, s25, ?_, hb', fun h => absurd h (by decide), f2⟩
      rw [ha, q2_put _ _ _ _ _ _ (by decide) (by decide)]
      rfl
  · intro k1 k2 a w' hk1 hk2 ⟨s16, s25, ha, hb', f1, f2⟩
    have keep : ∀ (g : Nat) (o o' : Obj), w'.heap[g]? = some o → (w'.alloc o').heap[g]? = some o := fun g o o' h => by rw [heap_alloc_old _ _ (Array.getElem?_eq_some_iff.1 h).1]; exact h
    match k2, hk2 with
    | 0, _ =>
      refine wpOp_build1 (u := .int .u8 (y.toNat : Int)) h14 g14 d14 p14 (run_build_u8 _ _ rfl) (by rw [ha, q2_eval _ _ _ _ _ (by decide) (by decide), q1_eval _ _ _ _ _ _ (by decide) (by decide) (by decide)]; exact hy) ⟨s16, .slice (some ⟨w'.heap.size, 0, none⟩) 1 1, ?_, below_alloc hb' _, fun h => ?_, fun _ => ⟨_, rfl, heap_alloc_new _ _⟩⟩
      · rw [ha]
        rfl
      · obtain ⟨g, e1, e2⟩ := f1 h
        exact ⟨g, e1, keep _ _ _ e2⟩
    | 1, _ =>
      obtain ⟨g, e1, e2⟩ := f2 rfl
      have hev : a.eval (.tmp 25) = .slice (some ⟨g, 0, none⟩) 1 1 := by
        rw [ha, ← e1]
        exact same _ _ _ (by rw [q1_size]; omega)
      refine wpOp_val (v := cc) h15 (wn _ _ g15) d15 (by unfold execOp; simp only [p15, hev]; rw [Sem.run_bind, cv _ _ _ e2]; rfl) ⟨s16, s25, ?_, hb', f1, fun h => absurd h (by decide)⟩
      rw [ha]
      rfl
  · rintro a w' ⟨s16, s25, rfl, hb', -, -⟩
    have e1 : ((((((A.put (some 16) s16).put (some 17) c1).put (some 20) c2).put (some 25) s25).put (some 26) cc)).eval (.tmp 20) = .string (bs [x] ++ m) := by
      rw [Act.eval_put_ne _ _ _ _ (by decide), Act.eval_put_ne _ _ _ _ (by decide)]
      exact same _ _ _ (by simp only [put_sz]; omega)
    have e2 : ((((((A.put (some 16) s16).put (some 17) c1).put (some 20) c2).put (some 25) s25).put (some 26) cc)).eval (.tmp 26) = .string (bs [y]) := same _ _ _ (by simp only [put_sz]; omega)
    refine wpAny_all (rs := [16]) r1 (by simp) (List.forall_mem_singleton.2 ?_)
    refine wpOp_val (v := .string (bs [x] ++ m ++ bs [y])) h16 (wn _ _ g16) d16 (ad _ _ _ _ _ _ _ p16 e1 e2 (by rw [ByteArray.size_append, size_bs]; simp; omega) (by rw [size_bs]; simp)) ?_
    refine wpAny_all (rs := [17]) r2 (by simp) (List.forall_mem_singleton.2 ?_)
    refine wpOp_assign h17 g17 d17 p17 (same _ _ _ (by show 27 < ((((((A.put (some 16) s16).put (some 17) c1).put (some 20) c2).put (some 25) s25).put (some 26) cc)).tmps.size; simp only [put_sz]; omega)) ?_
    exact wpAny_done r3 (hK _ _ _ hb') _

set_option maxRecDepth 1000000 in
set_option maxHeartbeats 4000000 in
theorem rclamp_any (s : ByteArray) (w : World) (hs : s.size = 32) : Calls Tryz.prog 74 #[.string s] w fun e w' => e = .returned (.string (clampB s)) ∧ Below w.heap.size w w' := by
  have h1 : (0 : Int) < s.size := by omega
  have h2 : (31 : Int) < s.size := by omega
  have h3 : (31 : Int) ≤ s.size := by omega
  have h4 : (1 : Int) ≤ s.size := by omega
  have hg0 := ls_get s 0 (by omega)
  have hg31 := ls_get s 31 (by omega)
  have HP := Lib.hid (clampB_parts s hs)
  have HX : (s.extract 1 31).size = 30 := by simp [hs]
  have k0 : ((ls s).getD 0 0).toNat < 256 := UInt8.toNat_lt _
  have k31 : ((ls s).getD 31 0).toNat < 256 := UInt8.toNat_lt _
  generalize clampB s = R at HP ⊢
  generalize (ls s).getD 0 0 = x0 at *
  generalize (ls s).getD 31 0 = x31 at *
  have B0 := Lib.hid (Below.refl w.heap.size w)
  go_enter Tryz.func74, Tryz.ntmps74
  go_wp2_with fail
  go_quiet (fail)
  go_wp2_with fail
  have e0 : IntKind.u8.wrap ((x0.toNat : Int) - (x0.toNat : Int) % 8) = ((UInt8.ofNat (x0.toNat - x0.toNat % 8)).toNat : Int) := by
    rw [wr_u8 _ (by omega) (by omega), UInt8.toNat_ofNat', Nat.mod_eq_of_lt (by omega)]
    omega
  have e1 : IntKind.u8.wrap ((x31.toNat : Int) % 64 + 64) = ((UInt8.ofNat (x31.toNat % 64 + 64)).toNat : Int) := by
    rw [wr_u8 _ (by omega) (by omega), UInt8.toNat_ofNat', Nat.mod_eq_of_lt (by omega)]
    omega
  refine wp_region_any (by kernel_rfl) ?_
  change wpAny _ _ _ _ _ _ _ (World.drew _)
  refine wpAny_take_at (i := 0) (d := 11) (v := .int .i64 (x0.toNat : Int)) rfl (by kernel_rfl) (by kernel_rfl) (by kernel_rfl) (fun _ _ _ h => h) rfl (Or.inl ⟨by rfl, by intro w1; go_simp⟩) ?_
  simp only [Act.put, List.setIfInBounds_toArray, List.set_cons_zero, List.set_cons_succ]
  refine wpAny_take_at (i := 1) (d := 12) (v := .int .i64 (x0.toNat : Int)) rfl (by kernel_rfl) (by kernel_rfl) (by kernel_rfl) (fun _ _ _ h => h) rfl (Or.inl ⟨by rfl, by intro w1; go_simp⟩) ?_
  simp only [Act.put, List.setIfInBounds_toArray, List.set_cons_zero, List.set_cons_succ]
  refine wpAny_take_at (i := 2) (d := 13) (v := .int .i64 ((x0.toNat : Int) % 8)) rfl (by kernel_rfl) (by kernel_rfl) (by kernel_rfl) (fun _ _ _ h => h) rfl (Or.inl ⟨by rfl, by intro w1; go_simp; exact Int.tmod_eq_emod_of_nonneg (Int.natCast_nonneg _)⟩) ?_
  simp only [Act.put, List.setIfInBounds_toArray, List.set_cons_zero, List.set_cons_succ]
  refine wpAny_take_at (i := 3) (d := 14) (v := .int .i64 ((x0.toNat : Int) - (x0.toNat : Int) % 8)) rfl (by kernel_rfl) (by kernel_rfl) (by kernel_rfl) (fun _ _ _ h => h) rfl (Or.inl ⟨by rfl, by intro w1; go_simp; exact wr_i64 _ (by omega) (by omega)⟩) ?_
  simp only [Act.put, List.setIfInBounds_toArray, List.set_cons_zero, List.set_cons_succ]
  refine wpAny_take_at (i := 4) (d := 15) (v := .int .u8 ((UInt8.ofNat (x0.toNat - x0.toNat % 8)).toNat : Int)) rfl (by kernel_rfl) (by kernel_rfl) (by kernel_rfl) (fun _ _ _ h => h) rfl (Or.inl ⟨by rfl, by intro w1; go_simp⟩) ?_
  simp only [Act.put, List.setIfInBounds_toArray, List.set_cons_zero, List.set_cons_succ]
  refine wpAny_take_at (i := 7) (d := 18) (v := .string s) rfl (by kernel_rfl) (by kernel_rfl) (by kernel_rfl) (fun _ _ _ h => h) rfl (Or.inl ⟨by rfl, by intro w1; go_simp⟩) ?_
  simp only [Act.put, List.setIfInBounds_toArray, List.set_cons_zero, List.set_cons_succ]
  refine wpAny_take_at (i := 8) (d := 19) (v := .string (s.extract 1 31)) rfl (by kernel_rfl) (by kernel_rfl) (by kernel_rfl) (fun _ _ _ h => h) rfl (Or.inl ⟨by rfl, by intro w1; go_simp⟩) ?_
  simp only [Act.put, List.setIfInBounds_toArray, List.set_cons_zero, List.set_cons_succ]
  refine wpAny_take_at (i := 10) (d := 21) (v := .int .i64 (x31.toNat : Int)) rfl (by kernel_rfl) (by kernel_rfl) (by kernel_rfl) (fun _ _ _ h => h) rfl (Or.inl ⟨by rfl, by intro w1; go_simp⟩) ?_
  simp only [Act.put, List.setIfInBounds_toArray, List.set_cons_zero, List.set_cons_succ]
  refine wpAny_take_at (i := 11) (d := 22) (v := .int .i64 ((x31.toNat : Int) % 64)) rfl (by kernel_rfl) (by kernel_rfl) (by kernel_rfl) (fun _ _ _ h => h) rfl (Or.inl ⟨by rfl, by intro w1; go_simp; exact Int.tmod_eq_emod_of_nonneg (Int.natCast_nonneg _)⟩) ?_
  simp only [Act.put, List.setIfInBounds_toArray, List.set_cons_zero, List.set_cons_succ]
  refine wpAny_take_at (i := 12) (d := 23) (v := .int .i64 ((x31.toNat : Int) % 64 + 64)) rfl (by kernel_rfl) (by kernel_rfl) (by kernel_rfl) (fun _ _ _ h => h) rfl (Or.inl ⟨by rfl, by intro w1; go_simp; exact wr_i64 _ (by omega) (by omega)⟩) ?_
  simp only [Act.put, List.setIfInBounds_toArray, List.set_cons_zero, List.set_cons_succ]
  refine wpAny_take_at (i := 13) (d := 24) (v := .int .u8 ((UInt8.ofNat (x31.toNat % 64 + 64)).toNat : Int)) rfl (by kernel_rfl) (by kernel_rfl) (by kernel_rfl) (fun _ _ _ h => h) rfl (Or.inl ⟨by rfl, by intro w1; go_simp⟩) ?_
  simp only [Act.put, List.setIfInBounds_toArray, List.set_cons_zero, List.set_cons_succ]
  change wpAny _ _ _ _ 7 (lst #[true, true, true, true, true, false, false, true, true, false, true, true, true, true, false, false, false, false] [5, 6, 9] [14, 15] 0 0) _ _
  refine clamp_region (x := UInt8.ofNat (x0.toNat - x0.toNat % 8)) (y := UInt8.ofNat (x31.toNat % 64 + 64)) (m := s.extract 1 31) (w0 := w) (by rfl) (by rfl) (by rfl) (by rfl) (by rfl) (by rfl) (by rfl) (by rfl) (by rfl) (by rfl) (by rfl) (by rfl) (by rfl) (by rfl) (by rfl) (by rfl) (by rfl) (by rfl) (by rfl) (by rfl) (by rfl) (by rfl) (by rfl) (by rfl) (by rfl) (by rfl) (by rfl) (by rfl)
    (by kernel_rfl) (by kernel_rfl) (by kernel_rfl) (by kernel_rfl) (by simp) (by rfl) (by rfl) (by rfl) (by omega) (below_drewN B0.out nq).drew ?_
  intro s16 s25 w1 hb1
  rw [HP.out]
  simp only [Act.put, List.setIfInBounds_toArray, List.set_cons_zero, List.set_cons_succ]
  go_wp2_with fail
  go_ret
  exact ⟨rfl, hb1⟩

theorem conv_block (w : World) (g T : Nat) (l : List UInt8) (n : Nat) (hl : l.length = n) (hb : w.heap[g]? = some (.cells (vls l).toArray T (0, 0))) :
    (convert 83 9 (.slice (some ⟨g, 0, none⟩) n n)).run Tryz.prog w = .ok (.string (bs l)) w := by
  refine run_block_to_string w 83 9 5 Tryz.underlying83 Tryz.underlying5 Tryz.underlying9 g n n T (0, 0) l (cs := (vls l).toArray) hb hl (fun j hj => ?_)
  simp [vls, valB, hj]
set_option maxRecDepth 1000000 in
set_option maxHeartbeats 1000000 in
theorem base_any (w : World) : Calls Tryz.prog 55 #[] w fun e w' => e = .returned (.string (bs (9 :: List.replicate 31 0))) ∧ Below w.heap.size w w' := by
  have B0 := Lib.hid (Below.refl w.heap.size w)
  have hconv := conv_block (w.alloc (.cells #[.int .u8 9, .int .u8 0, .int .u8 0, .int .u8 0, .int .u8 0, .int .u8 0, .int .u8 0, .int .u8 0, .int .u8 0, .int .u8 0, .int .u8 0, .int .u8 0, .int .u8 0, .int .u8 0, .int .u8 0, .int .u8 0, .int .u8 0, .int .u8 0, .int .u8 0, .int .u8 0, .int .u8 0, .int .u8 0, .int .u8 0, .int .u8 0, .int .u8 0, .int .u8 0, .int .u8 0, .int .u8 0, .int .u8 0, .int .u8 0, .int .u8 0, .int .u8 0] 114 (0, 0))) w.heap.size 114 (9 :: List.replicate 31 0) 32 rfl (heap_alloc_new _ _)
  go_enter Tryz.func55, Tryz.ntmps55
  go_wp2_with fail
  go_ret
  exact ⟨rfl, below_alloc B0.out _⟩
end Go.Proofs.YtfckjilhkdlpfaaGreatDoor

namespace Go.Proofs.YtfckjilhkdlpfaaGreatDoor
open Go.RowKit MS
/-- The first j bytes as a number, the lowest one first. -/
def leP (l : List UInt8) : Nat → Nat
  | 0 => 0
  | j + 1 => leP l j + (l.getD j 0).toNat * 2 ^ (8 * j)
theorem leP_lt (l : List UInt8) (j : Nat) : leP l j < 2 ^ (8 * j) := by
  induction j with
  | zero => show 0 < 1; decide
  | succ j ih =>
    have h := UInt8.toNat_lt (l.getD j 0)
    rw [leP, show 8 * (j + 1) = 8 * j + 8 by omega, Nat.pow_add]
    have : (l.getD j 0).toNat * 2 ^ (8 * j) ≤ 255 * 2 ^ (8 * j) := Nat.mul_le_mul_right _ (by omega)
    omega
theorem wd_at (l : List UInt8) (j : Nat) : wd (leP l (j + 1)) (j / 8) = wd (leP l j) (j / 8) + (l.getD j 0).toNat * 2 ^ (8 * (j % 8)) ∧ wd (leP l j) (j / 8) < 2 ^ (8 * (j % 8)) := by
  have hv := leP_lt l j
  have hb := UInt8.toNat_lt (l.getD j 0)
  rw [leP]
  generalize leP l j = v at *
  generalize (l.getD j 0).toNat = b at *
  have e : 8 * j = 64 * (j / 8) + 8 * (j % 8) := by omega
  have hr : j % 8 < 8 := Nat.mod_lt _ (by decide)
  generalize j / 8 = q at *
  generalize j % 8 = r at *
  rw [e, Nat.pow_add] at hv
  have hdiv : v / 2 ^ (64 * q) < 2 ^ (8 * r) := Nat.div_lt_of_lt_mul hv
  have h64 : 2 ^ (8 * r) * 256 ≤ 18446744073709551616 := by
    rw [show (256 : Nat) = 2 ^ 8 by decide, ← Nat.pow_add, show (18446744073709551616 : Nat) = 2 ^ 64 by decide]
    exact Nat.pow_le_pow_right (by decide) (by omega)
  have hbm : b * 2 ^ (8 * r) ≤ 255 * 2 ^ (8 * r) := Nat.mul_le_mul_right _ (by omega)
  unfold wd
  rw [e, Nat.pow_add, ← Nat.mul_assoc, Nat.mul_comm b, Nat.mul_assoc, Nat.add_mul_div_left _ _ (Nat.pow_pos (by decide))]
  generalize v / 2 ^ (64 * q) = u at *
  generalize 2 ^ (8 * r) = m at *
  rw [Nat.mod_eq_of_lt (by omega), Nat.mod_eq_of_lt (by omega)]
  exact ⟨rfl, hdiv⟩
theorem wd_other (l : List UInt8) (j q : Nat) (hq : q ≠ j / 8) : wd (leP l (j + 1)) q = wd (leP l j) q := by
  have hv := leP_lt l j
  have hv1 := leP_lt l (j + 1)
  rw [leP] at hv1 ⊢
  generalize leP l j = v at *
  generalize (l.getD j 0).toNat = b at *
  unfold wd
  rcases Nat.lt_or_ge q (j / 8) with h | h
  · obtain ⟨d, hd⟩ : ∃ d, 8 * j = 64 * q + (64 + d) := ⟨8 * j - 64 * q - 64, by omega⟩
    rw [hd, Nat.pow_add, Nat.pow_add 2 64 d, ← Nat.mul_assoc, Nat.mul_comm b, Nat.mul_assoc, Nat.add_mul_div_left _ _ (Nat.pow_pos (by decide)), Nat.mul_comm b, Nat.mul_assoc, show (2 : Nat) ^ 64 = 18446744073709551616 by decide, Nat.add_mul_mod_self_left]
  · have hp : 2 ^ (8 * (j + 1)) ≤ 2 ^ (64 * q) := Nat.pow_le_pow_right (by decide) (by omega)
    rw [Nat.div_eq_of_lt (Nat.lt_of_lt_of_le hv1 hp), Nat.div_eq_of_lt (Nat.lt_of_le_of_lt (Nat.le_add_right _ _) (Nat.lt_of_lt_of_le hv1 hp))]
theorem wdRow_step (l : List UInt8) (j : Nat) (hj : j < 32) : (wdRow (leP l j)).setIfInBounds (j / 8) (.int .u64 ((wd (leP l (j + 1)) (j / 8) : Nat) : Int)) = wdRow (leP l (j + 1)) := by
  have h4 : j / 8 = 0 ∨ j / 8 = 1 ∨ j / 8 = 2 ∨ j / 8 = 3 := by omega
  have o := fun q hq => wd_other l j q hq
  unfold wdRow
  rcases h4 with h | h | h | h <;> rw [h] at o ⊢
  · rw [o 1 (by decide), o 2 (by decide), o 3 (by decide)]; rfl
  · rw [o 0 (by decide), o 2 (by decide), o 3 (by decide)]; rfl
  · rw [o 0 (by decide), o 1 (by decide), o 3 (by decide)]; rfl
  · rw [o 0 (by decide), o 1 (by decide), o 2 (by decide)]; rfl
/-- The limbs of the words. -/
def ofN (v : Nat) : N5 := ⟨v % 2251799813685248, v / 2251799813685248 % 2251799813685248, v / 5070602400912917605986812821504 % 2251799813685248, v / 11417981541647679048466287755595961091061972992 % 2251799813685248, v / 25711008708143844408671393477458601640355247900524685364822016 % 2251799813685248⟩
theorem ofN_v (v : Nat) : (ofN v).v = v % 57896044618658097711785492504343953926634992332820282019728792003956564819968 := by
  simp only [ofN, N5.v]
  omega
theorem ofN_ok (v : Nat) : (ofN v).ok := by
  simp only [ofN, N5.ok]
  omega
theorem ofN_words (v : Nat) : (ofN v).a = wd v 0 % 2251799813685248 ∧ (ofN v).b = (wd v 0 / 2251799813685248 + wd v 1 % 274877906944 * 8192) % 2251799813685248 ∧ (ofN v).c = (wd v 1 / 274877906944 + wd v 2 % 33554432 * 67108864) % 2251799813685248 ∧
    (ofN v).d = (wd v 2 / 33554432 + wd v 3 % 4096 * 549755813888) % 2251799813685248 ∧ (ofN v).e = wd v 3 / 4096 % 2251799813685248 := by
  simp only [ofN, wd]
  refine ⟨?_, ?_, ?_, ?_, ?_⟩ <;> omega

/-- All 32 bytes. -/
def leN (s : ByteArray) : Nat := leP (ls s) 32
def ofS (s : ByteArray) : N5 := ofN (leN s)
theorem lane (k D M N u v : Nat) (hD : D * 2 ^ k = 18446744073709551616) (hM : M = 2 ^ k) (hu : u < 18446744073709551616) (hN : N * M = 18446744073709551616) :
    bits .and .u64 (bits .or .u64 ((u : Int) / (D : Nat)) (IntKind.u64.wrap ((v : Int) * (M : Nat)))) 2251799813685247 = (((u / D + v % N * M) % 2251799813685248 : Nat) : Int) := by
  subst hM
  have hN2 : v % N * 2 ^ k = v * 2 ^ k % 18446744073709551616 := by rw [← hN, Nat.mul_mod_mul_right]
  have h1 : u / D < 2 ^ k := Nat.div_lt_of_lt_mul (by rw [hD]; exact hu)
  have hlt : v % N * 2 ^ k < 18446744073709551616 := by rw [hN2]; exact Nat.mod_lt _ (by decide)
  have hk2 : v % N * 2 ^ k + 2 ^ k ≤ 18446744073709551616 := by
    have hNp : 0 < N := Nat.pos_of_ne_zero fun h => by rw [h, Nat.zero_mul] at hN; cases hN
    have := Nat.mod_lt v hNp
    calc v % N * 2 ^ k + 2 ^ k = (v % N + 1) * 2 ^ k := by rw [Nat.succ_mul]
      _ ≤ N * 2 ^ k := Nat.mul_le_mul_right _ this
      _ = _ := hN
  rw [IntKind.wrap_u64, show ((v : Int) * ((2 ^ k : Nat) : Int)) = ((v * 2 ^ k : Nat) : Int) by rw [Int.natCast_mul], show ((v * 2 ^ k : Nat) : Int) % 18446744073709551616 = ((v * 2 ^ k % 18446744073709551616 : Nat) : Int) by rw [Int.natCast_emod]; rfl, ← hN2,
    show (u : Int) / ((D : Nat) : Int) = ((u / D : Nat) : Int) by rw [Int.natCast_ediv], or_words k (u / D) (v % N) h1 (by omega), and51 _ (by omega)]

theorem of_lanes (v : Nat) : bits .and .u64 ((wd v 0 : Nat) : Int) 2251799813685247 = ((ofN v).a : Int) ∧
    bits .and .u64 (bits .or .u64 (((wd v 0 : Nat) : Int) / 2251799813685248) (IntKind.u64.wrap (((wd v 1 : Nat) : Int) * 8192))) 2251799813685247 = ((ofN v).b : Int) ∧
    bits .and .u64 (bits .or .u64 (((wd v 1 : Nat) : Int) / 274877906944) (IntKind.u64.wrap (((wd v 2 : Nat) : Int) * 67108864))) 2251799813685247 = ((ofN v).c : Int) ∧
    bits .and .u64 (bits .or .u64 (((wd v 2 : Nat) : Int) / 33554432) (IntKind.u64.wrap (((wd v 3 : Nat) : Int) * 549755813888))) 2251799813685247 = ((ofN v).d : Int) ∧
    bits .and .u64 (((wd v 3 : Nat) : Int) / 4096) 2251799813685247 = ((ofN v).e : Int) := by
  obtain ⟨k0, k1, k2, k3, k4⟩ := ofN_words v
  have b0 : wd v 0 < 18446744073709551616 := Nat.mod_lt _ (by decide)
  have b1 : wd v 1 < 18446744073709551616 := Nat.mod_lt _ (by decide)
  have b2 : wd v 2 < 18446744073709551616 := Nat.mod_lt _ (by decide)
  have b3 : wd v 3 < 18446744073709551616 := Nat.mod_lt _ (by decide)
  generalize wd v 0 = w0 at *
  generalize wd v 1 = w1 at *
  generalize wd v 2 = w2 at *
  generalize wd v 3 = w3 at *
  generalize ofN v = V at *
  refine ⟨?_, ?_, ?_, ?_, ?_⟩
  · rw [and51 w0 b0, ← k0]
  · have := lane 13 2251799813685248 8192 2251799813685248 w0 w1 (by decide) (by decide) b0 (by decide)
    rw [show (w0 / 2251799813685248 + w1 % 2251799813685248 * 8192) % 2251799813685248 = V.b by omega] at this
    exact this
  · have := lane 26 274877906944 67108864 274877906944 w1 w2 (by decide) (by decide) b1 (by decide)
    rw [show (w1 / 274877906944 + w2 % 274877906944 * 67108864) % 2251799813685248 = V.c by omega] at this
    exact this
  · have := lane 39 33554432 549755813888 33554432 w2 w3 (by decide) (by decide) b2 (by decide)
    rw [show (w2 / 33554432 + w3 % 33554432 * 549755813888) % 2251799813685248 = V.d by omega] at this
    exact this
  · have := and51 (w3 / 4096) (by omega)
    rw [← k4, show ((w3 / 4096 : Nat) : Int) = (w3 : Int) / 4096 by omega] at this
    exact this

theorem results_row_tmp {P : Program} {fn : Func} {p q : Tmp} {ty : TypeId} (h : fn.results = #[.cell p ty, .tmp q]) (tmps : Array Value) (w : World) (g : Nat) (t : TypeId) (cs : Array Value) (fr : Nat × Nat) (d : TypeDesc)
    (hp : tmps.getD p undef = .pointer (some ⟨g, 0, none⟩)) (v : Value) (hv : tmps.getD q undef = v) (hg : w.heap[g]? = some (.cells cs t fr))
    (hu : P.underlying ty = some d) (hd : (match d with | .struct _ | .array _ _ => true | _ => false) = true) (hi : (P.info? ty).map (·.size) = some cs.size) :
    (results fn tmps).run P w = .ok (.tuple #[.agg cs, v]) w := by
  have hp' : tmps[p]?.getD undef = .pointer (some ⟨g, 0, none⟩) := by simpa using hp
  have hv' : tmps[q]?.getD undef = v := by simpa using hv
  simp [results, h, hp', hv', asAddr, run_loadVar_row w g t ty cs fr d hg hu hd hi]

set_option maxRecDepth 1000000 in
set_option maxHeartbeats 4000000 in
theorem feof_no (s : ByteArray) (w : World) (hs : s.size ≠ 32) : Calls Tryz.prog 68 #[.string s] w fun e w' => e = .returned (.tuple #[.agg (nvA n0), .bool false]) ∧ Below w.heap.size w w' := by
  have h1 : ¬ (s.size : Int) = 32 := by omega
  have h2 : ((s.size : Int) != 32) = true := by simp; omega
  have IV := Lib.hid (infoV n0)
  have OV := Lib.hid (one_nvA n0)
  have R0 := Lib.hid ((Rw.nil w).alloc #[.int .u64 0, .int .u64 0, .int .u64 0, .int .u64 0, .int .u64 0] 94)
  have hnv : (#[.int .u64 0, .int .u64 0, .int .u64 0, .int .u64 0, .int .u64 0] : Array Value) = nvA n0 := rfl
  rw [hnv] at R0
  have RR := Lib.hid (R0.out.row 0)
  have R7 := Lib.hid (R0.out.store 0 (nvA n0))
  clear hs
  go_enter Tryz.func68, Tryz.ntmps68
  go_wp2_with (with_reducible refine wpList_store_row rfl 94 (.tmp 2) (.tmp 9) rfl w.heap.size (nvA n0) rfl rfl 94 (nvA n0) RR.out IV.out rfl OV.out ?_)
  exact bodyPost_ret (results_row_tmp rfl _ _ w.heap.size 94 (nvA n0) (0, 0) _ rfl (.bool false) rfl (R7.out.row 0) Tryz.underlying94 rfl IV.out) rfl ⟨rfl, R7.out.bel⟩

set_option maxRecDepth 1000000 in
set_option maxHeartbeats 4000000 in
theorem feof_yes (s : ByteArray) (w : World) (hs : s.size = 32) : Calls Tryz.prog 68 #[.string s] w fun e w' => e = .returned (.tuple #[.agg (nvA (ofS s)), .bool true]) ∧ Below w.heap.size w w' := by
  have h1 : (s.size : Int) = 32 := by omega
  have h2 : ((s.size : Int) != 32) = false := by simp; omega
  have HS := Lib.hid hs
  have R0 := Lib.hid (show Rw w [(w.heap.size, #[.int .u64 0, .int .u64 0, .int .u64 0, .int .u64 0, .int .u64 0], 94), (w.heap.size + 1, wdRow (leP (ls s) 0), 128)] ((w.alloc (.cells #[.int .u64 0, .int .u64 0, .int .u64 0, .int .u64 0, .int .u64 0] 94 (0, 0))).alloc (.cells #[.int .u64 0, .int .u64 0, .int .u64 0, .int .u64 0] 128 (0, 0))) from by
    have := ((Rw.nil w).alloc #[.int .u64 0, .int .u64 0, .int .u64 0, .int .u64 0, .int .u64 0] 94).alloc #[.int .u64 0, .int .u64 0, .int .u64 0, .int .u64 0] 128
    rw [World.size_alloc] at this
    rw [show wdRow (leP (ls s) 0) = #[.int .u64 0, .int .u64 0, .int .u64 0, .int .u64 0] by simp [wdRow, wd, leP]]
    exact this)
  clear hs
  go_enter Tryz.func68, Tryz.ntmps68
  go_upto_region 4 with fail
  generalize (w.alloc (.cells #[.int .u64 0, .int .u64 0, .int .u64 0, .int .u64 0, .int .u64 0] 94 (0, 0))).alloc (.cells #[.int .u64 0, .int .u64 0, .int .u64 0, .int .u64 0] 128 (0, 0)) = W at R0 ⊢
  generalize w.heap.size + 1 = gw at *
  generalize w.heap.size = gR at R0 ⊢
  go_wp2_with fail
  go_loopw [12] (fun c wr => ∃ j : Nat, j ≤ 32 ∧ c = .int .i64 j ∧ Rw w [(gR, #[.int .u64 0, .int .u64 0, .int .u64 0, .int .u64 0, .int .u64 0], 94), (gw, wdRow (leP (ls s) j), 128)] wr) (fun c _ => 32 - (intOf c).toNat)
  case atStart => exact ⟨0, by omega, rfl, R0.out⟩
  case round =>
    obtain ⟨j, hj, rfl, hr⟩ := hrel
    have R6 := Lib.hid hr
    have HJ := Lib.hid hj
    clear hr R0 hj
    by_cases hlt : j < 32
    · have j1 : (j : Int) < 32 := by omega
      have j0 : (0 : Int) ≤ j := by omega
      have js : (j : Int) < s.size := by omega
      have HLT := Lib.hid hlt
      have hjs : j < s.size := by omega
      have hgs := ls_get s j hjs
      have hb := UInt8.toNat_lt ((ls s).getD j 0)
      have hW := wd_at (ls s) j
      have PUT := Lib.hid (show ∀ kk, Rw w [(gR, #[.int .u64 0, .int .u64 0, .int .u64 0, .int .u64 0, .int .u64 0], 94), (gw, wdRow (leP (ls s) (j + 1)), 128)] ((wr.drewN kk).setCell ⟨gw, j / 8, none⟩ (.int .u64 ((wd (leP (ls s) (j + 1)) (j / 8) : Nat) : Int))) from fun kk => by
        have := (R6.out.drewN kk).put 1 (j / 8) (.int .u64 ((wd (leP (ls s) (j + 1)) (j / 8) : Nat) : Int))
        rw [wdRow_step _ _ hlt] at this
        exact this)
      have cw := R6.out.cell 1 (j / 8) (wdRow_get (leP (ls s) j) (j / 8) (by omega))
      have fw := R6.out.free 1 (j / 8)
      obtain ⟨q, hq⟩ : ∃ q, j / 8 = q := ⟨_, rfl⟩
      obtain ⟨r, hr⟩ : ∃ r, j % 8 = r := ⟨_, rfl⟩
      rw [hq] at hW PUT cw fw
      rw [hr] at hW
      have q4 : q < 4 := by omega
      have r8 : r = 0 ∨ r = 1 ∨ r = 2 ∨ r = 3 ∨ r = 4 ∨ r = 5 ∨ r = 6 ∨ r = 7 := by omega
      have qj : (j : Int) / 8 = (q : Int) := by omega
      have rj : (j : Int) % 8 = (r : Int) := by omega
      have qn : (0 : Int) ≤ q := by omega
      have qi : (q : Int) < 4 := by omega
      generalize wd (leP (ls s) (j + 1)) q = W1 at hW PUT
      generalize wd (leP (ls s) j) q = W0 at hW cw
      generalize (ls s).getD j 0 = b0 at hW hgs hb
      generalize hB : b0.toNat = B0 at hW hb
      obtain ⟨hW1, hW⟩ := hW
      clear hlt hq hr q4
      rcases r8 with rfl | rfl | rfl | rfl | rfl | rfl | rfl | rfl
      · have rk : (j : Int) % 8 = 0 := rj
        have vb := or_words 0 W0 B0 hW (by omega)
        rw [show W0 + B0 * 2 ^ 0 = W1 by omega, show ((B0 * 2 ^ 0 : Nat) : Int) = (B0 : Int) by omega] at vb
        have vm : (B0 : Int) * 1 < 18446744073709551616 := by omega
        clear rj hW hW1
        go_wp2_with fail
        refine wp_region_draws_tail 14 (by kernel_rfl) (by kernel_rfl) ?_
        simp only [List.take_succ_cons, List.take_zero]
        repeat (go_big_quiet_step (fail))
        refine wpQuiet_nil ?_
        rintro _ ⟨kk, rfl⟩
        have PK := Lib.hid (PUT.out kk)
        simp only [List.drop_succ_cons, List.drop_zero]
        go_wp2_with fail
        go_roundw
        case rel => exact ⟨j + 1, HLT.out, by go_num, PK.out⟩
        case measure => simp [intOf]; omega
      · have rk : (j : Int) % 8 = 1 := rj
        have vb := or_words 8 W0 B0 hW (by omega)
        rw [show W0 + B0 * 2 ^ 8 = W1 by omega, show ((B0 * 2 ^ 8 : Nat) : Int) = (B0 : Int) * 256 by omega] at vb
        have vm : (B0 : Int) * 256 < 18446744073709551616 := by omega
        clear rj hW hW1
        go_wp2_with fail
        refine wp_region_draws_tail 14 (by kernel_rfl) (by kernel_rfl) ?_
        simp only [List.take_succ_cons, List.take_zero]
        repeat (go_big_quiet_step (fail))
        refine wpQuiet_nil ?_
        rintro _ ⟨kk, rfl⟩
        have PK := Lib.hid (PUT.out kk)
        simp only [List.drop_succ_cons, List.drop_zero]
        go_wp2_with fail
        go_roundw
        case rel => exact ⟨j + 1, HLT.out, by go_num, PK.out⟩
        case measure => simp [intOf]; omega
      · have rk : (j : Int) % 8 = 2 := rj
        have vb := or_words 16 W0 B0 hW (by omega)
        rw [show W0 + B0 * 2 ^ 16 = W1 by omega, show ((B0 * 2 ^ 16 : Nat) : Int) = (B0 : Int) * 65536 by omega] at vb
        have vm : (B0 : Int) * 65536 < 18446744073709551616 := by omega
        clear rj hW hW1
        go_wp2_with fail
        refine wp_region_draws_tail 14 (by kernel_rfl) (by kernel_rfl) ?_
        simp only [List.take_succ_cons, List.take_zero]
        repeat (go_big_quiet_step (fail))
        refine wpQuiet_nil ?_
        rintro _ ⟨kk, rfl⟩
        have PK := Lib.hid (PUT.out kk)
        simp only [List.drop_succ_cons, List.drop_zero]
        go_wp2_with fail
        go_roundw
        case rel => exact ⟨j + 1, HLT.out, by go_num, PK.out⟩
        case measure => simp [intOf]; omega
      · have rk : (j : Int) % 8 = 3 := rj
        have vb := or_words 24 W0 B0 hW (by omega)
        rw [show W0 + B0 * 2 ^ 24 = W1 by omega, show ((B0 * 2 ^ 24 : Nat) : Int) = (B0 : Int) * 16777216 by omega] at vb
        have vm : (B0 : Int) * 16777216 < 18446744073709551616 := by omega
        clear rj hW hW1
        go_wp2_with fail
        refine wp_region_draws_tail 14 (by kernel_rfl) (by kernel_rfl) ?_
        simp only [List.take_succ_cons, List.take_zero]
        repeat (go_big_quiet_step (fail))
        refine wpQuiet_nil ?_
        rintro _ ⟨kk, rfl⟩
        have PK := Lib.hid (PUT.out kk)
        simp only [List.drop_succ_cons, List.drop_zero]
        go_wp2_with fail
        go_roundw
        case rel => exact ⟨j + 1, HLT.out, by go_num, PK.out⟩
        case measure => simp [intOf]; omega
      · have rk : (j : Int) % 8 = 4 := rj
        have vb := or_words 32 W0 B0 hW (by omega)
        rw [show W0 + B0 * 2 ^ 32 = W1 by omega, show ((B0 * 2 ^ 32 : Nat) : Int) = (B0 : Int) * 4294967296 by omega] at vb
        have vm : (B0 : Int) * 4294967296 < 18446744073709551616 := by omega
        clear rj hW hW1
        go_wp2_with fail
        refine wp_region_draws_tail 14 (by kernel_rfl) (by kernel_rfl) ?_
        simp only [List.take_succ_cons, List.take_zero]
        repeat (go_big_quiet_step (fail))
        refine wpQuiet_nil ?_
        rintro _ ⟨kk, rfl⟩
        have PK := Lib.hid (PUT.out kk)
        simp only [List.drop_succ_cons, List.drop_zero]
        go_wp2_with fail
        go_roundw
        case rel => exact ⟨j + 1, HLT.out, by go_num, PK.out⟩
        case measure => simp [intOf]; omega
      · have rk : (j : Int) % 8 = 5 := rj
        have vb := or_words 40 W0 B0 hW (by omega)
        rw [show W0 + B0 * 2 ^ 40 = W1 by omega, show ((B0 * 2 ^ 40 : Nat) : Int) = (B0 : Int) * 1099511627776 by omega] at vb
        have vm : (B0 : Int) * 1099511627776 < 18446744073709551616 := by omega
        clear rj hW hW1
        go_wp2_with fail
        refine wp_region_draws_tail 14 (by kernel_rfl) (by kernel_rfl) ?_
        simp only [List.take_succ_cons, List.take_zero]
        repeat (go_big_quiet_step (fail))
        refine wpQuiet_nil ?_
        rintro _ ⟨kk, rfl⟩
        have PK := Lib.hid (PUT.out kk)
        simp only [List.drop_succ_cons, List.drop_zero]
        go_wp2_with fail
        go_roundw
        case rel => exact ⟨j + 1, HLT.out, by go_num, PK.out⟩
        case measure => simp [intOf]; omega
      · have rk : (j : Int) % 8 = 6 := rj
        have vb := or_words 48 W0 B0 hW (by omega)
        rw [show W0 + B0 * 2 ^ 48 = W1 by omega, show ((B0 * 2 ^ 48 : Nat) : Int) = (B0 : Int) * 281474976710656 by omega] at vb
        have vm : (B0 : Int) * 281474976710656 < 18446744073709551616 := by omega
        clear rj hW hW1
        go_wp2_with fail
        refine wp_region_draws_tail 14 (by kernel_rfl) (by kernel_rfl) ?_
        simp only [List.take_succ_cons, List.take_zero]
        repeat (go_big_quiet_step (fail))
        refine wpQuiet_nil ?_
        rintro _ ⟨kk, rfl⟩
        have PK := Lib.hid (PUT.out kk)
        simp only [List.drop_succ_cons, List.drop_zero]
        go_wp2_with fail
        go_roundw
        case rel => exact ⟨j + 1, HLT.out, by go_num, PK.out⟩
        case measure => simp [intOf]; omega
      · have rk : (j : Int) % 8 = 7 := rj
        have vb := or_words 56 W0 B0 hW (by omega)
        rw [show W0 + B0 * 2 ^ 56 = W1 by omega, show ((B0 * 2 ^ 56 : Nat) : Int) = (B0 : Int) * 72057594037927936 by omega] at vb
        have vm : (B0 : Int) * 72057594037927936 < 18446744073709551616 := by omega
        clear rj hW hW1
        go_wp2_with fail
        refine wp_region_draws_tail 14 (by kernel_rfl) (by kernel_rfl) ?_
        simp only [List.take_succ_cons, List.take_zero]
        repeat (go_big_quiet_step (fail))
        refine wpQuiet_nil ?_
        rintro _ ⟨kk, rfl⟩
        have PK := Lib.hid (PUT.out kk)
        simp only [List.drop_succ_cons, List.drop_zero]
        go_wp2_with fail
        go_roundw
        case rel => exact ⟨j + 1, HLT.out, by go_num, PK.out⟩
        case measure => simp [intOf]; omega
    · have j1 : ¬ (j : Int) < 32 := by omega
      have hj32 : j = 32 := by have := HJ.out; omega
      clear hlt
      obtain ⟨v, hv⟩ : ∃ v, leP (ls s) j = v := ⟨_, rfl⟩
      have R8 := Lib.hid (show Rw w [(gR, #[.int .u64 0, .int .u64 0, .int .u64 0, .int .u64 0, .int .u64 0], 94), (gw, wdRow v, 128)] wr from by rw [← hv]; exact R6.out)
      have HV := Lib.hid (show ofS s = ofN v from by rw [← hv, hj32]; rfl)
      clear R6 hv
      have c0 := R8.out.cell 1 0 (wdRow_get v 0 (by decide))
      have c1 := R8.out.cell 1 1 (wdRow_get v 1 (by decide))
      have c2 := R8.out.cell 1 2 (wdRow_get v 2 (by decide))
      have c3 := R8.out.cell 1 3 (wdRow_get v 3 (by decide))
      obtain ⟨E0, E1, E2, E3, E4⟩ := of_lanes v
      have IV := Lib.hid (infoV (ofN v))
      have OV := Lib.hid (one_nvA (ofN v))
      have LV := Lib.hid (show (#[.int .u64 0, .int .u64 0, .int .u64 0, .int .u64 0, .int .u64 0] : Array Value).size = (nvA (ofN v)).size from rfl)
      generalize wd v 0 = w0 at *
      generalize wd v 1 = w1 at *
      generalize wd v 2 = w2 at *
      generalize wd v 3 = w3 at *
      generalize ofN v = V at *
      have hnv : (#[.int .u64 (V.a : Int), .int .u64 (V.b : Int), .int .u64 (V.c : Int), .int .u64 (V.d : Int), .int .u64 (V.e : Int)] : Array Value) = nvA V := rfl
      have RR := Lib.hid (R8.out.row 0)
      have R7 := Lib.hid (R8.out.store 0 (nvA V))
      go_wp2_with (with_reducible refine wpList_store_row rfl 94 (.tmp 2) (.tmp 61) rfl gR (nvA V) rfl rfl 94 #[.int .u64 0, .int .u64 0, .int .u64 0, .int .u64 0, .int .u64 0] RR.out IV.out LV.out OV.out ?_)
      exact bodyPost_ret (results_row_tmp rfl _ _ gR 94 (nvA V) (0, 0) _ rfl (.bool true) rfl (R7.out.row 0) Tryz.underlying94 rfl IV.out) rfl ⟨by rw [HV.out], R7.out.bel⟩
end Go.Proofs.YtfckjilhkdlpfaaGreatDoor

namespace Go.Proofs.YtfckjilhkdlpfaaGreatDoor
open Go.RowKit MS
theorem leP_byte (l : List UInt8) : ∀ n i, i < n → leP l n / 2 ^ (8 * i) % 256 = (l.getD i 0).toNat := by
  intro n
  induction n with
  | zero => intro i h; omega
  | succ n ih =>
    intro i h
    rw [leP]
    by_cases e : i = n
    · subst e
      have h1 := leP_lt l i
      have h2 := UInt8.toNat_lt (l.getD i 0)
      rw [Nat.mul_comm, Nat.add_mul_div_left _ _ (Nat.pow_pos (by decide)), Nat.div_eq_of_lt h1, Nat.zero_add, Nat.mod_eq_of_lt (by omega)]
    · obtain ⟨d, hd⟩ : ∃ d, 8 * n = 8 * i + (8 + d) := ⟨8 * n - 8 * i - 8, by omega⟩
      rw [hd, Nat.pow_add, Nat.pow_add 2 8 d, Nat.mul_comm ((l.getD n 0).toNat), Nat.mul_assoc, Nat.add_mul_div_left _ _ (Nat.pow_pos (by decide)), show (2 : Nat) ^ 8 = 256 by decide, Nat.mul_assoc, Nat.add_mul_mod_self_left]
      exact ih i (by omega)
theorem leP_digit (l : List UInt8) (j : Nat) (h : j < 16) : leP l 32 / 65536 ^ j % 65536 = (l.getD (2 * j) 0).toNat + 256 * (l.getD (2 * j + 1) 0).toNat := by
  have h0 := leP_byte l 32 (2 * j) (by omega)
  have h1 := leP_byte l 32 (2 * j + 1) (by omega)
  have p0 : (2 : Nat) ^ (8 * (2 * j)) = 65536 ^ j := by rw [show 8 * (2 * j) = 16 * j by omega, Nat.pow_mul]
  have p1 : (2 : Nat) ^ (8 * (2 * j + 1)) = 65536 ^ j * 256 := by rw [show 8 * (2 * j + 1) = 16 * j + 8 by omega, Nat.pow_add, Nat.pow_mul]
  rw [p0] at h0
  rw [p1, ← Nat.div_div_eq_div_mul] at h1
  rw [← h0, ← h1]
  generalize leP l 32 / 65536 ^ j = x
  omega
theorem leP_step (l : List UInt8) (j : Nat) (h : j < 16) : dvs (dgn 65536 j (leP l 32)) ++ [.int .i64 (((l.getD (2 * j) 0).toNat : Int) + 256 * ((l.getD (2 * j + 1) 0).toNat : Int))] = dvs (dgn 65536 (j + 1) (leP l 32)) := by
  rw [dg_succ, dvs_app, leP_digit l j h]
  congr 3
theorem lo_set (u : Nat) : (dgn 65536 16 u).set 15 (u / 65536 ^ 15 % 65536 % 32768) = dgn 65536 16 (lo255 u) := by
  apply List.ext_getElem?
  intro i
  by_cases hi : i < 16
  · rw [List.getElem?_set, length_dgn, dg_get _ _ _ _ hi]
    by_cases e : 15 = i
    · subst e
      rw [if_pos rfl, if_pos (by decide), ← lo_dig15, dg_get _ _ _ _ hi]
    · rw [if_neg e, dg_get _ _ _ _ hi, lo_dig u i (by omega)]
  · rw [List.getElem?_eq_none (by rw [List.length_set, length_dgn]; omega), List.getElem?_eq_none (by rw [length_dgn]; omega)]
/-- The element that 32 bytes are, the highest bit left off. -/
def uF (s : ByteArray) : MSE.F := toF (lo255 (leN s))

set_option maxRecDepth 1000000 in
set_option maxHeartbeats 2000000 in
theorem rfof_any (s : ByteArray) (w : World) (hs : s.size = 32) :
    Calls Tryz.prog 75 #[.string s] w fun e w' => Below w.heap.size w w' ∧ ∃ r, e = .returned r ∧ DF w' r (uF s) := by
  obtain ⟨i0, hi, hz0, hz1, hz2⟩ : ∃ i, Tryz.prog.info? 3 = some i ∧ i.zero = some (.int .i64 0) ∧ i.size = 1 ∧ i.bytes = 8 := ⟨_, rfl, rfl, rfl, rfl⟩
  have h1 : (s.size : Int) = 32 := by omega
  obtain ⟨U, hU⟩ : ∃ U, leP (ls s) 32 = U := ⟨_, rfl⟩
  have hstep := fun j h => leP_step (ls s) j h
  rw [hU] at hstep
  have HST := Lib.hid hstep
  have HUF := Lib.hid (show (uF s).val = lo255 U % Q' from by rw [← hU]; rfl)
  have HLT := Lib.hid (show U < 65536 ^ 16 from by have := leP_lt (ls s) 32; rw [hU] at this; exact this)
  generalize uF s = R at HUF ⊢
  have hown0 : w.ownsRow w.heap.size 3 1 (.slice none 0 0) 0 (dvs (dgn 65536 0 U)) := World.ownsRow_nil _ _ _ _
  clear hU hstep
  go_enter Tryz.func75, Tryz.ntmps75
  go_wp2_with fail
  go_loopw [3, 4] (fun v i wr => ∃ j : Nat, j ≤ 16 ∧ i = .int .i64 (2 * (j : Int)) ∧ wr.ownsRow w.heap.size 3 1 v j (dvs (dgn 65536 j U)) ∧ Below w.heap.size w wr) (fun _ i _ => 32 - (intOf i).toNat)
  case atStart => exact ⟨0, by omega, rfl, hown0, Below.refl _ _⟩
  case round =>
    obtain ⟨j, hj, rfl, ho, hb⟩ := hrel
    have HO := Lib.hid ho
    have HB := Lib.hid hb
    have HJ := Lib.hid hj
    clear ho hb hj hown0
    have hs0 : _ ≤ wr.heap.size := HB.out.size
    by_cases hlt : j < 16
    · have j1 : 2 * (j : Int) < 32 := by omega
      have j0 : (0 : Int) ≤ 2 * (j : Int) := by omega
      have j2 : 2 * (j : Int) + 1 < s.size := by omega
      have j3 : 2 * (j : Int) < s.size := by omega
      have j4 : (0 : Int) ≤ 2 * (j : Int) + 1 := by omega
      have e1 : (2 * (j : Int)).toNat = 2 * j := by omega
      have e2 : (2 * (j : Int) + 1).toNat = 2 * j + 1 := by omega
      have q0 : 2 * j < s.size := by omega
      have q1 : 2 * j + 1 < s.size := by omega
      have g0 := ls_get s (2 * j) q0
      have g1 := ls_get s (2 * j + 1) q1
      have b0 := UInt8.toNat_lt ((ls s).getD (2 * j) 0)
      have b1 := UInt8.toNat_lt ((ls s).getD (2 * j + 1) 0)
      have hst := HST.out j hlt
      have HL := Lib.hid hlt
      generalize (ls s).getD (2 * j) 0 = x0 at *
      generalize (ls s).getD (2 * j + 1) 0 = x1 at *
      have HS2 := Lib.hid hst
      have m0 : (x0.toNat : Int) < 256 := by omega
      have m1 : (x1.toNat : Int) < 256 := by omega
      have HML := Lib.hid (show j + 1 ≤ maxLen by unfold maxLen; omega)
      have HMB := Lib.hid (show (j + 1) * 8 ≤ 140737488355328 by omega)
      clear hlt hst
      go_wp2_with fail
      refine wp_region_any (by kernel_rfl) ?_
      change wpAny _ _ _ _ _ _ _ (World.drew _)
      refine wpAny_take_at (i := 0) (d := 9) (v := u3) rfl (by kernel_rfl) (by kernel_rfl) (by kernel_rfl) (fun _ _ _ h => h) rfl (Or.inl ⟨by rfl, by intro w; go_simp⟩) ?_
      simp only [Act.put, List.setIfInBounds_toArray, List.set_cons_zero, List.set_cons_succ]
      refine wpAny_quiet_mid (fun w' => ∃ k, w' = wr.drewN k) #[true, true, true, true, true, true, true, true, true, true, true, true, false, false, false] 1 11 3 (by kernel_rfl) (by kernel_rfl) (by kernel_rfl) (by kernel_rfl) rfl ⟨1, rfl⟩ ?_
      simp only [List.take_succ_cons, List.take_zero, List.drop_succ_cons, List.drop_zero]
      repeat (go_big_quiet_step (fail))
      refine wpQuiet_nil ?_
      intro _ hw'
      obtain ⟨kk, hw''⟩ := hw'
      subst hw''
      have HO2 := Lib.hid (show (wr.drewN kk).ownsRow w.heap.size 3 1 u3 j (dvs (dgn 65536 j U)) from HO.out)
      have HB2 := Lib.hid (below_drewN HB.out kk)
      have hs1 : _ ≤ (wr.drewN kk).heap.size := HB2.out.size
      generalize wr.drewN kk = wz at HO2 HB2 hs1 ⊢
      have HAL := Lib.hid (HO2.out.alloc (.cells #[.int .i64 ((x0.toNat : Int) + 256 * (x1.toNat : Int))] 3 (0, 0)))
      refine wpAny_tail 12 3 (by kernel_rfl) rfl ?_
      simp only [List.drop_succ_cons, List.drop_zero]
      clear HO HB hs0 g0 g1
      go_wp2_with (at_builtin; refine wpList_append_own _ rfl (.tmp 9) (.tmp 21) 105 rfl _ 3 i0 (.int .i64 0) 1 8 Tryz.underlying105 hi hz0 hz1 hz2 rfl (by decide) _ _ _ rfl HAL.out ⟨wz.heap.size, 0, none⟩ 1 1 [.int .i64 ((x0.toNat : Int) + 256 * (x1.toNat : Int))] rfl rfl (one_cell wz _ _) (one_one _ rfl) HML.out HMB.out (le_alloc hs1 _) ?_)
      intro v1 w1 h1 h2 h3
      have HB1 := Lib.hid (below_app HB2.out _ _ _ _ _ HO2.out h2)
      rw [HS2.out] at h1
      have HO1 := Lib.hid h1
      clear h1 h2 h3 hs1
      go_wp2_with fail
      go_roundw
      case rel => exact ⟨j + 1, HL.out, by go_num, HO1.out, HB1.out⟩
      case measure => simp [intOf]; omega
    · have j1 : ¬ 2 * (j : Int) < 32 := by omega
      have hj16 : j = 16 := by have := HJ.out; omega
      subst hj16
      clear hlt
      obtain ⟨g, cap, rfl, hge, -⟩ := HO.out.form (by decide)
      have c15 : wr.cell? ⟨g, 15, none⟩ = some (.int .i64 ((U / 65536 ^ 15 % 65536 : Nat) : Int)) := by
        rw [HO.out.cellAt 15 (by decide), dvs, List.getElem?_map, dg_get _ _ _ _ (by decide)]
        rfl
      have f15 := HO.out.frozenAt 15
      have HP := Lib.hid (HO.out.stored 15 (.int .i64 ((U / 65536 ^ 15 % 65536 % 32768 : Nat) : Int))).1
      have HSET := Lib.hid (lo_set U)
      have HBS := Lib.hid (HB.out.setCell (p := ⟨g, 15, none⟩) hge (.int .i64 ((U / 65536 ^ 15 % 65536 % 32768 : Nat) : Int)))
      obtain ⟨D, hD⟩ : ∃ D, U / 65536 ^ 15 % 65536 = D := ⟨_, rfl⟩
      rw [hD] at c15 HP HSET HBS
      have d0 : (0 : Int) ≤ (D : Int) := by omega
      have em : ((D % 32768 : Nat) : Int) = (D : Int) % 32768 := by omega
      rw [em] at HP HBS
      have hg : g < wr.heap.size := by
        have := (own_cap HO.out).2.2.2
        exact this
      have DX := Lib.hid (show DS (wr.setCell ⟨g, 15, none⟩ (.int .i64 ((D : Int) % 32768))) w.heap.size (.slice (some ⟨g, 0, none⟩) 16 cap) 16 (lo255 U) from ⟨by
        have := HP.out
        rwa [show (dvs (dgn 65536 16 U)).set 15 (.int .i64 ((D : Int) % 32768)) = dvs (dgn 65536 16 (lo255 U)) by rw [← HSET.out, ← em]; simp [dvs, List.map_set]] at this, lo_lt U, by decide, by decide⟩)
      clear hD hg
      go_wp2_with fail
      refine (rreduce_any _ _ _ _ _ DX.out (by decide)).mono ?_
      rintro e w2 ⟨hb2, r2, rfl, hd2⟩
      have B2 := Lib.hid (HBS.out.trans (hb2.mono HBS.out.size))
      have D2 := Lib.hid (show DF w2 r2 R from by unfold DF; rw [HUF.out]; exact hd2)
      clear hb2 hd2
      go_wp2_with fail
      go_ret
      exact ⟨B2.out, _, rfl, D2.out⟩
end Go.Proofs.YtfckjilhkdlpfaaGreatDoor

namespace Go.Proofs.YtfckjilhkdlpfaaGreatDoor
open Go.RowKit MS
/-- Bit i of a text. -/
def kbit (k : ByteArray) (i : Nat) : Bool := decide (((ls k).getD (i / 8) 0).toNat / 2 ^ (i % 8) % 2 = 1)
/-- The d bits from 254 down. -/
def bts (f : Nat → Bool) : Nat → List Bool
  | 0 => []
  | d + 1 => bts f d ++ [f (254 - d)]
/-- X25519 of a scalar and a part u, 32 bytes each. -/
def xlB (s u : ByteArray) : MSE.F := MSE.xlF (uF u) (bts (kbit (clampB s)) 255)
def xB (s u : ByteArray) : ByteArray := bs (le32 (xlB s u).val)
theorem lad_step (u : MSE.F) (f : Nat → Bool) (d : Nat) : MSE.ladF u (bts f (d + 1)) = MSE.stepF u (MSE.ladF u (bts f d)) (f (254 - d)) := by
  unfold MSE.ladF
  rw [bts, List.foldl_append]
  rfl
theorem step_one (u : MSE.F) (P : (MSE.F × MSE.F) × (MSE.F × MSE.F)) : MSE.stepF u P true = (MSE.addF u P.1 P.2, MSE.dblF P.2) := rfl
theorem step_nil (u : MSE.F) (P : (MSE.F × MSE.F) × (MSE.F × MSE.F)) : MSE.stepF u P false = (MSE.dblF P.1, MSE.addF u P.1 P.2) := rfl
theorem inv_val (x : MSE.F) : (MSE.inv x).val = x.val ^ E21 % Q' := by
  unfold MSE.inv
  rw [MSE.fp_val]
  rfl
theorem rpowF (x : MSE.F) (va : Value) (w : World) (ha : DF w va x) :
    Calls Tryz.prog 81 #[va] w fun e w' => Below w.heap.size w w' ∧ ∃ r, e = .returned r ∧ DF w' r (MSE.inv x) := by
  refine (rfpower_any x.val va 0 w ha x.isLt).mono fun _ _ h => ?_
  obtain ⟨h1, r, h2, h3⟩ := h
  refine ⟨h1, r, h2, ?_⟩
  show DS _ _ _ _ (MSE.inv x).val
  rw [inv_val]
  exact h3
/-- What the loop keeps. -/
structure PStL (x : MSE.F) (f : Nat → Bool) (d : Nat) (vx a b c e : Value) (w0 w : World) : Prop where
  u : DF w vx x
  p1 : DF w a (MSE.ladF x (bts f d)).1.1
  p2 : DF w b (MSE.ladF x (bts f d)).1.2
  q1 : DF w c (MSE.ladF x (bts f d)).2.1
  q2 : DF w e (MSE.ladF x (bts f d)).2.2
  bel : Below w0.heap.size w0 w

set_option maxRecDepth 1000000 in
set_option maxHeartbeats 4000000 in
theorem rpoint_any (s u : ByteArray) (w : World) (hs : s.size = 32) (hu : u.size = 32) :
    Calls Tryz.prog 50 #[.string s, .string u] w fun e w' => e = .returned (.string (xB s u)) ∧ Below w.heap.size w w' := by
  have C := Lib.hid (fun w => rclamp_any s w hs)
  have O := Lib.hid (fun w => rfof_any u w hu)
  have HX := Lib.hid (show xB s u = bs (le32 (MSE.outF (MSE.ladF (uF u) (bts (kbit (clampB s)) 255)).1).val) from rfl)
  have hk : (clampB s).size = 32 := by rw [clampB, size_bs, length_clampL, length_ls]; exact hs
  generalize clampB s = k at *
  generalize uF u = x at *
  generalize xB s u = R at *
  have k1 : (k.size : Int) = 32 := by omega
  have HF := Lib.hid (show ∀ i, kbit k i = decide (((ls k).getD (i / 8) 0).toNat / 2 ^ (i % 8) % 2 = 1) from fun _ => rfl)
  generalize kbit k = f at HX HF
  have HK := Lib.hid hk
  have S1 := Lib.hid (fun w => rsmallF 1 (by decide) w)
  have S0 := Lib.hid (fun w => rsmallF 0 (by decide) w)
  clear hs hu hk
  go_enter Tryz.func50, Tryz.ntmps50
  go_wp2_with fail
  refine (C.out _).mono ?_
  rintro e w1 ⟨rfl, hb1⟩
  have B1 := Lib.hid hb1
  clear hb1
  go_wp2_with fail
  refine (O.out _).mono ?_
  rintro e w2 ⟨hb2, vx, rfl, hd2⟩
  have B2 := Lib.hid (B1.out.trans (hb2.mono B1.out.size))
  have DX := Lib.hid hd2
  clear hb2 B1 hd2
  go_wp2_with fail
  refine (S1.out _).mono ?_
  rintro e w3 ⟨hb3, va, rfl, hd3⟩
  have B3 := Lib.hid (B2.out.trans (hb3.mono B2.out.size))
  have DX3 := Lib.hid (DX.out.on hb3)
  have DA := Lib.hid hd3
  clear hb3 hd3 B2 DX
  go_wp2_with fail
  refine (S0.out _).mono ?_
  rintro e w4 ⟨hb4, vb, rfl, hd4⟩
  have B4 := Lib.hid (B3.out.trans (hb4.mono B3.out.size))
  have DX4 := Lib.hid (DX3.out.on hb4)
  have DA4 := Lib.hid (DA.out.on hb4)
  have DB := Lib.hid hd4
  clear hb4 hd4 B3 DX3 DA
  go_wp2_with fail
  refine (S1.out _).mono ?_
  rintro e w5 ⟨hb5, vc, rfl, hd5⟩
  have P0 := Lib.hid (show PStL x f 0 vx va vb vx vc w w5 from ⟨DX4.out.on hb5, DA4.out.on hb5, DB.out.on hb5, DX4.out.on hb5, hd5, B4.out.trans (hb5.mono B4.out.size)⟩)
  clear hb5 hd5 B4 DX4 DA4 DB
  go_wp2_with fail
  go_loopw [7, 8, 9, 10, 11] (fun a b c e i wr => ∃ d : Nat, d ≤ 255 ∧ i = .int .i64 (254 - (d : Int)) ∧ PStL x f d vx a b c e w wr) (fun _ _ _ _ i _ => (intOf i + 1).toNat)
  case atStart => exact ⟨0, by omega, rfl, P0.out⟩
  case round =>
    obtain ⟨d, hd, rfl, hp⟩ := hrel
    have P1 := Lib.hid hp
    have HD := Lib.hid hd
    clear hp hd P0
    by_cases hlt : d < 255
    · obtain ⟨i, hi⟩ : ∃ i : Nat, i = 254 - d := ⟨_, rfl⟩
      have ei : 254 - (d : Int) = (i : Int) := by omega
      have i0 : (i : Int) ≥ 0 := by omega
      have i1 : (i : Int) ≤ 254 := by omega
      have i2 : (0 : Int) ≤ (i : Int) / 8 := by omega
      have i3 : (i : Int) / 8 < k.size := by omega
      have e8 : ((i : Int) / 8).toNat = i / 8 := by omega
      have hik : i / 8 < k.size := by omega
      have gk := ls_get k (i / 8) hik
      rw [ei]
      have HI := Lib.hid (show i = 254 - d ∧ d < 255 from ⟨hi, hlt⟩)
      have HB := Lib.hid (HF.out i)
      obtain ⟨r, hr⟩ : ∃ r : Nat, r = i % 8 := ⟨_, rfl⟩
      have er : (i : Int) % 8 = (r : Int) := by omega
      have r7 : (r : Int) < 8 := by omega
      have r0 : (0 : Int) ≤ (r : Int) := by omega
      generalize (ls k).getD (i / 8) 0 = b0 at *
      rw [← hr] at HB
      have hb0 := UInt8.toNat_lt b0
      generalize hB : b0.toNat = B at *
      have HER := Lib.hid er
      have HR7 := Lib.hid r7
      clear hi hlt ei er r7 r0
      go_wp2_with fail
      obtain ⟨wo, rfl⟩ : ∃ wo : World, wo = wr := ⟨_, rfl⟩
      go_loopw [12, 13] (fun b n wr => ∃ m y : Nat, m ≤ r ∧ n = .int .i64 m ∧ b = .int .i64 y ∧ y = B / 2 ^ m ∧ wr = wo) (fun _ n _ => 8 - (intOf n).toNat)
      case atStart => exact ⟨0, B, Nat.zero_le _, rfl, rfl, by simp, rfl⟩
      case round =>
        obtain ⟨m, y, hm, rfl, rfl, hy, rfl⟩ := hrel
        have HM := Lib.hid hm
        have HY := Lib.hid hy
        have y0 : (0 : Int) ≤ (y : Int) := by omega
        have y1 : (y : Int) < 256 := by
          have : B / 2 ^ m ≤ B := Nat.div_le_self _ _
          omega
        clear hm hy
        by_cases hmr : m < r
        · have m1 : (m : Int) < (i : Int) % 8 := by have := HER.out; omega
          have m0 : (0 : Int) ≤ m := by omega
          have HMR := Lib.hid hmr
          have ey : ((y / 2 : Nat) : Int) = (y : Int) / 2 := by omega
          have HE := Lib.hid (show y / 2 = B / 2 ^ (m + 1) by rw [HY.out, Nat.div_div_eq_div_mul, Nat.pow_succ])
          have EY := Lib.hid ey
          clear hmr ey
          go_wp2_with fail
          go_roundw
          case rel => exact ⟨m + 1, y / 2, HMR.out, by go_num, by rw [EY.out], HE.out, trivial⟩
          case measure => simp [intOf]; have := HMR.out; have := HR7.out; omega
        · have m1 : ¬ (m : Int) < (i : Int) % 8 := by have := HER.out; omega
          have hmr2 : m = r := by have := HM.out; omega
          subst hmr2
          clear hmr
          have hbit := HB.out
          rw [← HY.out] at hbit
          have HBIT := Lib.hid hbit
          clear hbit
          go_wp2_with fail
          refine (rboth_any _ _ _ _ _ _ _ _ _ _ _ P1.out.p1 P1.out.p2 P1.out.q1 P1.out.q2 P1.out.u).mono ?_
          rintro e w6 ⟨hb6, t1, t2, rfl, hd61, hd62⟩
          have B6 := Lib.hid (P1.out.bel.trans (hb6.mono P1.out.bel.size))
          have U6 := Lib.hid (P1.out.u.on hb6)
          have A1 := Lib.hid (P1.out.p1.on hb6)
          have A2 := Lib.hid (P1.out.p2.on hb6)
          have A3 := Lib.hid (P1.out.q1.on hb6)
          have A4 := Lib.hid (P1.out.q2.on hb6)
          have A5 := Lib.hid hd61
          have A6 := Lib.hid hd62
          clear hb6 hd61 hd62
          have HSTEP := Lib.hid (lad_step x f d)
          by_cases hb : y % 2 = 1
          · have t1' : ((y : Int) % 2 == 1) = true := by simp; omega
            have HT := Lib.hid (show f i = true from by rw [HBIT.out]; exact decide_eq_true hb)
            clear hb
            go_wp2_with fail
            refine (rtwice_any _ _ _ _ _ A3.out A4.out).mono ?_
            rintro e w7 ⟨hb7, t3, t4, rfl, hd71, hd72⟩
            have PN := Lib.hid (show PStL x f (d + 1) vx t1 t2 t3 t4 w w7 from by
              have hs := HSTEP.out
              rw [← HI.out.1, HT.out, step_one] at hs
              exact ⟨U6.out.on hb7, by rw [hs]; exact A5.out.on hb7, by rw [hs]; exact A6.out.on hb7, by rw [hs]; exact hd71, by rw [hs]; exact hd72, B6.out.trans (hb7.mono B6.out.size)⟩)
            clear hb7 hd71 hd72
            go_wp2_with fail
            go_roundw
            case rel => exact ⟨d + 1, HI.out.2, by have := HI.out; go_num, PN.out⟩
            case measure => simp [intOf]
          · have t1' : ((y : Int) % 2 == 1) = false := by simp; omega
            have HT := Lib.hid (show f i = false from by rw [HBIT.out]; exact decide_eq_false hb)
            clear hb
            go_wp2_with fail
            refine (rtwice_any _ _ _ _ _ A1.out A2.out).mono ?_
            rintro e w7 ⟨hb7, t3, t4, rfl, hd71, hd72⟩
            have PN := Lib.hid (show PStL x f (d + 1) vx t3 t4 t1 t2 w w7 from by
              have hs := HSTEP.out
              rw [← HI.out.1, HT.out, step_nil] at hs
              exact ⟨U6.out.on hb7, by rw [hs]; exact hd71, by rw [hs]; exact hd72, by rw [hs]; exact A5.out.on hb7, by rw [hs]; exact A6.out.on hb7, B6.out.trans (hb7.mono B6.out.size)⟩)
            clear hb7 hd71 hd72
            go_wp2_with fail
            go_roundw
            case rel => exact ⟨d + 1, HI.out.2, by have := HI.out; go_num, PN.out⟩
            case measure => simp [intOf]
    · have j1 : ¬ 254 - (d : Int) ≥ 0 := by omega
      have hd5 : d = 255 := by have := HD.out; omega
      have HX2 := Lib.hid (show R = bs (le32 (MSE.outF (MSE.ladF x (bts f d)).1).val) from by rw [hd5]; exact HX.out)
      clear hlt hd5
      go_wp2_with fail
      refine (rpowF _ _ _ P1.out.p2).mono ?_
      rintro e w6 ⟨hb6, t1, rfl, hd6⟩
      have B6 := Lib.hid (P1.out.bel.trans (hb6.mono P1.out.bel.size))
      have A1 := Lib.hid (P1.out.p1.on hb6)
      have A2 := Lib.hid hd6
      clear hb6 hd6
      go_wp2_with fail
      refine (rmulF _ _ _ _ _ A1.out A2.out).mono ?_
      rintro e w7 ⟨hb7, t2, rfl, hd7⟩
      have B7 := Lib.hid (B6.out.trans (hb7.mono B6.out.size))
      have A3 := Lib.hid hd7
      clear hb7 hd7 B6
      go_wp2_with fail
      refine (rfbytes_any _ _ _ _ A3.out.val).mono ?_
      rintro e w8 ⟨rfl, hb8⟩
      have B8 := Lib.hid (B7.out.trans (hb8.mono B7.out.size))
      clear hb8 B7
      go_wp2_with fail
      go_ret
      exact ⟨by rw [HX2.out]; rfl, B8.out⟩
end Go.Proofs.YtfckjilhkdlpfaaGreatDoor

namespace MS
open Go Go.RowKit
section
variable {P : Program} {ops : Array Oper} {md : Region.Mode}
def BWc (p : World) : World → Prop := fun w' => ∃ q : BW p, w' = q.1
theorem BWc.of {p w : World} (h : Below p.heap.size p w) : BWc p w := ⟨⟨w, h⟩, rfl⟩
theorem BWc.below {p w : World} (h : BWc p w) : Below p.heap.size p w := by
  obtain ⟨q, rfl⟩ := h
  exact q.2

/-- Operation i makes an object, whatever the frame and the world are. -/
def Maker (P : Program) (ops : Array Oper) (i d : Nat) (ob : Obj) : Prop :=
  ∃ o, ops[i]? = some o ∧ o.dst = some d ∧ (∀ a : Act, Region.wanted o (yielded ops a.tmps) = true) ∧ ∀ (a : Act) (w : World), (execOp a.eval o).run P w = .ok (.value (.pointer (some ⟨w.heap.size, 0, none⟩))) (w.alloc ob)
def updR (rows : Nat → Option Obj) (g : Nat) (o : Obj) : Nat → Option Obj := fun x => if x = g then some o else rows x
theorem updR_same (rows : Nat → Option Obj) (g : Nat) (o : Obj) : updR rows g o g = some o := if_pos rfl
theorem updR_ne (rows : Nat → Option Obj) {g x : Nat} (o : Obj) (h : x ≠ g) : updR rows g o x = rows x := if_neg h
theorem updR_comm (rows : Nat → Option Obj) {g g' : Nat} (o o' : Obj) (h : g ≠ g') : updR (updR rows g o) g' o' = updR (updR rows g' o') g o := by
  funext x
  unfold updR
  by_cases h1 : x = g
  · subst h1
    rw [if_neg h, if_pos rfl, if_pos rfl]
  · by_cases h2 : x = g'
    · rw [if_pos h2, if_neg h1, if_pos h2]
    · rw [if_neg h2, if_neg h1, if_neg h1, if_neg h2]
def Holds (rows : Nat → Option Obj) (w : World) : Prop := ∀ g o, rows g = some o → w.heap[g]? = some o
abbrev ptrV (g : Nat) : Value := .pointer (some ⟨g, 0, none⟩)

def wpMk (P : Program) (md : Region.Mode) (ops : Array Oper) (w0 : World) (n : Nat) (mk : Nat → Nat × Obj) (L : (Nat → Option Obj) → Array Bool → Act → Prop) : Nat → (Nat → Option Obj) → Array Bool → Act → Prop
  | 0, rows, listed, a => L rows listed a
  | f + 1, rows, listed, a => Region.ready md ops listed ≠ [] ∧ ∀ i ∈ Region.ready md ops listed,
      (i < n ∧ ∃ o v, ops[i]? = some o ∧ (∀ p, Below w0.heap.size w0 p → YieldsIn P ops (BWc p) o v a) ∧ wpMk P md ops w0 n mk L f rows (listed.setIfInBounds i true) (a.put o.dst v)) ∨
      (n ≤ i ∧ Maker P ops i (mk i).1 (mk i).2 ∧ ∀ g, w0.heap.size ≤ g → rows g = none → wpMk P md ops w0 n mk L f (updR rows g (mk i).2) (listed.setIfInBounds i true) (a.put (some (mk i).1) (ptrV g)))

theorem wpAny_of_mk {w0 : World} {n g : Nat} {mk : Nat → Nat × Obj} {L : (Nat → Option Obj) → Array Bool → Act → Prop} {Q' : Exit → Act → World → Prop}
    (hL : ∀ rows listed a w, Below w0.heap.size w0 w → Holds rows w → L rows listed a → wpAny P md ops Q' g listed a w) :
    ∀ (f : Nat) (rows : Nat → Option Obj) (listed : Array Bool) (a : Act) (w : World), Below w0.heap.size w0 w → Holds rows w → wpMk P md ops w0 n mk L f rows listed a → wpAny P md ops Q' (f + g) listed a w
  | 0, rows, listed, a, w, hb, hh, h => by rw [Nat.zero_add]; exact hL _ _ _ _ hb hh h
  | f + 1, rows, listed, a, w, hb, hh, h => by
    rw [show f + 1 + g = (f + g) + 1 by omega]
    refine ⟨fun h0 => absurd h0 h.1, fun i hi => ?_⟩
    rcases h.2 i hi with ⟨_, o, v, ho, hy, hK⟩ | ⟨_, ⟨o, ho, hd, hw, hrun⟩, hK⟩
    · refine wpOp_of_qOp (C := BWc w) (K := fun a' => a' = a.put o.dst v) (BWc.of (Below.refl _ _)) ?_ ((hy w hb).qOp ho rfl)
      rintro a' w' hw' rfl
      have hb' := hw'.below
      refine wpAny_of_mk hL f rows _ _ w' (hb.trans (hb'.mono hb.size)) (fun g' o' hr => ?_) hK
      have h1 := hh g' o' hr
      rw [hb'.block _ (Array.getElem?_eq_some_iff.1 h1).1]
      exact h1
    · unfold wpOp
      simp only [ho]
      rw [if_pos (hw a)]
      refine .inl ?_
      unfold Oper.wp
      rw [hrun]
      simp only [Oper.upon, hd]
      refine wpAny_of_mk hL f _ _ _ _ (below_alloc hb _) ?_ (hK w.heap.size hb.size ?_)
      · intro g' o' hr
        by_cases e : g' = w.heap.size
        · subst e
          rw [updR_same] at hr
          rw [← hr]
          exact heap_alloc_new _ _
        · rw [updR_ne _ _ e] at hr
          have h1 := hh g' o' hr
          rw [heap_alloc_old _ _ (Array.getElem?_eq_some_iff.1 h1).1]
          exact h1
      · cases hr : rows w.heap.size with
        | none => rfl
        | some o' =>
          have := (Array.getElem?_eq_some_iff.1 (hh _ _ hr)).1
          omega

theorem mk_first_quiet {w0 : World} {n n' i : Nat} {mk : Nat → Nat × Obj} {oi : Oper} {v : Value} {L : (Nat → Option Obj) → Array Bool → Act → Prop} (hi : ops[i]? = some oi) (hsel : ∀ (j : Nat) (o : Oper) cs b, ops[j]? = some o → o.op ≠ .select cs b)
    (hs : Region.sinkB md ops n' = true) (hc : Region.chainB md ops n' = true) (hn : n' < ops.size) (hin : i < n) (hnn : n ≤ n')
    (hdone : ∀ rows listed a, L rows listed a → ∀ j ∈ Region.ready md ops listed, n' ≤ j) :
    ∀ (f : Nat) (rows : Nat → Option Obj) (listed : Array Bool) (a : Act), HeadInv md ops n' listed →
      (∀ j oj, ops[j]? = some oj → j ≠ i → listed.getD j true = false → (∀ e ∈ oj.after, Region.binds md e = true → e.on ≠ i) → oi.apart ops oj = true) →
      i ∈ Region.ready md ops listed → (∀ p, Below w0.heap.size w0 p → YieldsIn P ops (BWc p) oi v a) →
      wpMk P md ops w0 n mk L f rows (listed.setIfInBounds i true) (a.put oi.dst v) → wpMk P md ops w0 n mk L (f + 1) rows listed a := by
  intro f
  induction f with
  | zero =>
    intro rows listed a inv _ hr hy H
    have hun := (mem_ready.1 hr).1
    refine ⟨fun h => (by rw [h] at hr; cases hr), fun j hj => ?_⟩
    have hjn : j < n' := by
      rcases Nat.lt_or_ge j n' with h | h
      · exact h
      · exact absurd hj (tail_waits hs hc hn inv _ i rfl (Nat.lt_of_lt_of_le hin hnn) hun j h)
    by_cases hji : j = i
    · subst hji
      exact .inl ⟨hin, oi, v, hi, hy, H⟩
    · have := hdone _ _ _ H j (ready_mono hj hji)
      omega
  | succ f ih =>
    intro rows listed a inv hfree hr hy H
    have hun := (mem_ready.1 hr).1
    refine ⟨fun h => (by rw [h] at hr; cases hr), fun j hj => ?_⟩
    have hjn : j < n' := by
      rcases Nat.lt_or_ge j n' with h | h
      · exact h
      · exact absurd hj (tail_waits hs hc hn inv _ i rfl (Nat.lt_of_lt_of_le hin hnn) hun j h)
    by_cases hji : j = i
    · subst hji
      exact .inl ⟨hin, oi, v, hi, hy, H⟩
    · obtain ⟨hjun, oj, hoj, hall⟩ := mem_ready.1 hj
      have hnot : ∀ e ∈ oj.after, Region.binds md e = true → e.on ≠ i := fun e he hb heq => by
        have h1 := hall e he hb
        rw [heq, getD_both hun] at h1
        cases h1
      obtain ⟨h1, h2, h3⟩ := Oper.apart_spec (hfree j oj hoj hji hjun hnot)
      have hsi : ∀ cs b, oi.op ≠ .select cs b := fun cs b => hsel i oi cs b hi
      have hsj : ∀ cs b, oj.op ≠ .select cs b := fun cs b => hsel j oj cs b hoj
      have hfree' : ∀ k ok, ops[k]? = some ok → k ≠ i → (listed.setIfInBounds j true).getD k true = false →
          (∀ e ∈ ok.after, Region.binds md e = true → e.on ≠ i) → oi.apart ops ok = true := fun k ok hk hki hun hno => by
        refine hfree k ok hk hki ?_ hno
        by_cases hjk : j = k
        · subst hjk; exact hjun
        · rw [getD_set_ne true hjk] at hun; exact hun
      rcases H.2 j (ready_mono hj hji) with ⟨hq, oj', u, hoj', hyj, hK⟩ | ⟨hq, hM, hK⟩
      · have : oj' = oj := Option.some.inj (hoj'.symm.trans hoj)
        subst this
        refine .inl ⟨hq, oj', u, hoj, fun p hp => (hyj p hp).of_same (execOp_put oj' hsj a oi.dst v h1).symm (wanted_put oj' a oi.dst v h1).symm, ?_⟩
        refine ih rows (listed.setIfInBounds j true) _ (inv.set hj hjn) hfree' (ready_mono hr (Ne.symm hji)) (fun p hp => (hy p hp).of_same (execOp_put oi hsi a oj'.dst u h3) (wanted_put oi a oj'.dst u h3)) ?_
        rw [Array.setIfInBounds_comm _ _ hji, ← Act.put_comm a v u h2]
        exact hK
      · obtain ⟨oj', hoj', hd, hw, hrun⟩ := hM
        have : oj' = oj := Option.some.inj (hoj'.symm.trans hoj)
        subst this
        refine .inr ⟨hq, ⟨oj', hoj, hd, hw, hrun⟩, fun g hg hr0 => ?_⟩
        rw [hd] at h2 h3
        refine ih _ (listed.setIfInBounds j true) _ (inv.set hj hjn) hfree' (ready_mono hr (Ne.symm hji)) (fun p hp => (hy p hp).of_same (execOp_put oi hsi a _ (ptrV g) h3) (wanted_put oi a _ (ptrV g) h3)) ?_
        rw [Array.setIfInBounds_comm _ _ hji, ← Act.put_comm a v (ptrV g) h2]
        exact hK g hg hr0

theorem mk_first_maker {w0 : World} {n n' i : Nat} {mk : Nat → Nat × Obj} {oi : Oper} {L : (Nat → Option Obj) → Array Bool → Act → Prop} (hM : Maker P ops i (mk i).1 (mk i).2) (hi : ops[i]? = some oi)
    (hs : Region.sinkB md ops n' = true) (hc : Region.chainB md ops n' = true) (hn : n' < ops.size) (hni : n ≤ i) (hin : i < n')
    (hdone : ∀ rows listed a, L rows listed a → ∀ j ∈ Region.ready md ops listed, n' ≤ j) :
    ∀ (f : Nat) (rows : Nat → Option Obj) (listed : Array Bool) (a : Act), HeadInv md ops n' listed → (∀ q, q < n → listed.getD q true = true) →
      (∀ j oj, ops[j]? = some oj → j ≠ i → listed.getD j true = false → (∀ e ∈ oj.after, Region.binds md e = true → e.on ≠ i) → oi.apart ops oj = true) →
      i ∈ Region.ready md ops listed → (∃ N, ∀ g, N ≤ g → rows g = none) →
      (∀ g, w0.heap.size ≤ g → rows g = none → wpMk P md ops w0 n mk L f (updR rows g (mk i).2) (listed.setIfInBounds i true) (a.put (some (mk i).1) (ptrV g))) → wpMk P md ops w0 n mk L (f + 1) rows listed a := by
  have hdi : oi.dst = some (mk i).1 := by
    obtain ⟨o, ho, hd, _⟩ := hM
    have : o = oi := Option.some.inj (ho.symm.trans hi)
    rw [← this]
    exact hd
  intro f
  induction f with
  | zero =>
    intro rows listed a inv hq _ hr hfin H
    have hun := (mem_ready.1 hr).1
    refine ⟨fun h => (by rw [h] at hr; cases hr), fun j hj => ?_⟩
    have hjn : j < n' := by
      rcases Nat.lt_or_ge j n' with h | h
      · exact h
      · exact absurd hj (tail_waits hs hc hn inv _ i rfl hin hun j h)
    by_cases hji : j = i
    · subst hji
      exact .inr ⟨hni, hM, H⟩
    · obtain ⟨N, hN⟩ := hfin
      have := hdone _ _ _ (H (max N w0.heap.size) (Nat.le_max_right _ _) (hN _ (Nat.le_max_left _ _))) j (ready_mono hj hji)
      omega
  | succ f ih =>
    intro rows listed a inv hq hfree hr hfin H
    have hun := (mem_ready.1 hr).1
    refine ⟨fun h => (by rw [h] at hr; cases hr), fun j hj => ?_⟩
    have hjn : j < n' := by
      rcases Nat.lt_or_ge j n' with h | h
      · exact h
      · exact absurd hj (tail_waits hs hc hn inv _ i rfl hin hun j h)
    by_cases hji : j = i
    · subst hji
      exact .inr ⟨hni, hM, H⟩
    · obtain ⟨hjun, oj, hoj, hall⟩ := mem_ready.1 hj
      have hnj : n ≤ j := by
        rcases Nat.lt_or_ge j n with h | h
        · rw [hq j h] at hjun; cases hjun
        · exact h
      have hnot : ∀ e ∈ oj.after, Region.binds md e = true → e.on ≠ i := fun e he hb heq => by
        have h1 := hall e he hb
        rw [heq, getD_both hun] at h1
        cases h1
      obtain ⟨_, h2, _⟩ := Oper.apart_spec (hfree j oj hoj hji hjun hnot)
      have hfree' : ∀ k ok, ops[k]? = some ok → k ≠ i → (listed.setIfInBounds j true).getD k true = false →
          (∀ e ∈ ok.after, Region.binds md e = true → e.on ≠ i) → oi.apart ops ok = true := fun k ok hk hki hun hno => by
        refine hfree k ok hk hki ?_ hno
        by_cases hjk : j = k
        · subst hjk; exact hjun
        · rw [getD_set_ne true hjk] at hun; exact hun
      have part : ∀ g, w0.heap.size ≤ g → rows g = none → Maker P ops j (mk j).1 (mk j).2 ∧ ∀ g', w0.heap.size ≤ g' → updR rows g (mk i).2 g' = none →
          wpMk P md ops w0 n mk L f (updR (updR rows g (mk i).2) g' (mk j).2) ((listed.setIfInBounds i true).setIfInBounds j true) ((a.put (some (mk i).1) (ptrV g)).put (some (mk j).1) (ptrV g')) := fun g hg hr0 => by
        rcases (H g hg hr0).2 j (ready_mono hj hji) with ⟨h, _⟩ | ⟨_, hM', hK⟩
        · omega
        · exact ⟨hM', hK⟩
      obtain ⟨N, hN⟩ := hfin
      have hM' := (part (max N w0.heap.size) (Nat.le_max_right _ _) (hN _ (Nat.le_max_left _ _))).1
      have hdj : oj.dst = some (mk j).1 := by
        obtain ⟨o, ho, hd, _⟩ := hM'
        have : o = oj := Option.some.inj (ho.symm.trans hoj)
        rw [← this]
        exact hd
      refine .inr ⟨hnj, hM', fun g' hg' hr' => ?_⟩
      refine ih _ (listed.setIfInBounds j true) _ (inv.set hj hjn) (fun q hqn => ?_) hfree' (ready_mono hr (Ne.symm hji)) ⟨max N (g' + 1), fun g hg => ?_⟩ (fun g hg hr0 => ?_)
      · rw [getD_set_ne true (by omega)]
        exact hq q hqn
      · have h1 := Nat.le_max_left N (g' + 1)
        have h2 := Nat.le_max_right N (g' + 1)
        rw [updR_ne _ _ (by omega)]
        exact hN g (by omega)
      · have hne : g ≠ g' := fun e => by
          rw [e, updR_same] at hr0
          cases hr0
        rw [updR_ne _ _ hne] at hr0
        have := (part g hg hr0).2 g' hg' (by rw [updR_ne _ _ (Ne.symm hne)]; exact hr')
        rw [Array.setIfInBounds_comm _ _ hji, updR_comm _ _ _ (Ne.symm hne), ← Act.put_comm a (ptrV g) (ptrV g') (by rw [hdi, hdj] at h2; exact h2)]
        exact this

def mkTail (w0 : World) (mk : Nat → Nat × Obj) (Lf : (Nat → Option Obj) → Act → Prop) : Nat → Nat → (Nat → Option Obj) → Act → Prop
  | 0, _, rows, a => Lf rows a
  | m + 1, k, rows, a => ∀ g, w0.heap.size ≤ g → rows g = none → mkTail w0 mk Lf m (k + 1) (updR rows g (mk k).2) (a.put (some (mk k).1) (ptrV g))

theorem mk_lex_makers {w0 : World} {n n' g : Nat} {mk : Nat → Nat × Obj} {Lf : (Nat → Option Obj) → Act → Prop} (hmk : ∀ j, n ≤ j → j < n' → Maker P ops j (mk j).1 (mk j).2)
    (hs : Region.sinkB md ops n' = true) (hc : Region.chainB md ops n' = true) (hn : n' < ops.size) :
    ∀ (m k : Nat) (rows : Nat → Option Obj) (listed : Array Bool) (a : Act), k + m = n' → n ≤ k → HeadInv md ops n' listed → (∀ q, q < n → listed.getD q true = true) → (∃ N, ∀ g, N ≤ g → rows g = none) →
    Region.lexHead md ops g m k listed = true → mkTail w0 mk Lf m k rows a →
    wpMk P md ops w0 n mk (fun rows listed' a' => Region.seqB md ops g n' listed' = true ∧ Lf rows a') m rows listed a
  | 0, k, rows, listed, a, hk, _, _, _, _, hB, h => by
    have : k = n' := by omega
    subst this
    exact ⟨by simpa [Region.lexHead] using hB, h⟩
  | m + 1, k, rows, listed, a, hk, hnk, inv, hq, hfin, hB, h => by
    simp only [Region.lexHead, Bool.and_eq_true] at hB
    obtain ⟨⟨hr, hf⟩, hB'⟩ := hB
    have hr' : k ∈ Region.ready md ops listed := by simpa using hr
    obtain ⟨_, o, ho, _⟩ := mem_ready.1 hr'
    refine mk_first_maker (hmk k hnk (by omega)) ho hs hc hn hnk (by omega) (fun rows' listed' a' hL => seqB_ready hL.1) m rows listed a inv hq (Region.free_spec ho hf) hr' hfin ?_
    intro g' hg' hr0
    obtain ⟨N, hN⟩ := hfin
    refine mk_lex_makers hmk hs hc hn m (k + 1) _ _ _ (by omega) (by omega) (inv.set hr' (by omega)) (fun q hqn => ?_) ⟨max N (g' + 1), fun g hg => ?_⟩ hB' (h g' hg' hr0)
    · rw [getD_set_ne true (by omega)]
      exact hq q hqn
    · have h1 := Nat.le_max_left N (g' + 1)
      have h2 := Nat.le_max_right N (g' + 1)
      rw [updR_ne _ _ (by omega)]
      exact hN g (by omega)

theorem put_get_ne (a : Act) (x : Option Tmp) (d : Nat) (v : Value) (h : x ≠ some d) : (a.put x v).tmps[d]? = a.tmps[d]? := by
  cases x with
  | none => rfl
  | some e => simp [Act.put, Array.getElem?_setIfInBounds_ne (fun he : e = d => h (by rw [he]))]
theorem put_get_same (a : Act) (d : Nat) (v : Value) (h : d < a.tmps.size) : (a.put (some d) v).tmps[d]? = some v := by simp [Act.put, h]
theorem put_size (a : Act) (x : Option Tmp) (v : Value) : (a.put x v).tmps.size = a.tmps.size := by cases x <;> simp [Act.put]
/-- A slot that no operation writes is at the walk's end what it was. -/
theorem quiet_slot {C : World → Prop} {A : Act} {d : Nat} : ∀ (l : List Oper) (a : Act), wpQuiet P ops C (fun a' => a' = A) l a → (∀ o ∈ l, o.dst ≠ some d) → A.tmps[d]? = a.tmps[d]?
  | [], a, h, _ => by rw [show a = A from h]
  | o :: l, a, h, hd => by
    have h' : if Region.wanted o (yielded ops a.tmps) = true then o.quiet P a C (wpQuiet P ops C (fun a' => a' = A) l) else wpQuiet P ops C (fun a' => a' = A) l (a.put o.dst undef) := h
    have hl : ∀ x ∈ l, x.dst ≠ some d := fun x hx => hd x (List.mem_cons_of_mem _ hx)
    split at h'
    · obtain ⟨v, _, h2⟩ := h'
      rw [quiet_slot l _ h2 hl, put_get_ne _ _ _ _ (hd o List.mem_cons_self)]
    · rw [quiet_slot l _ h' hl, put_get_ne _ _ _ _ (hd o List.mem_cons_self)]
def dstB (sz : Nat) : List Oper → Bool
  | [] => true
  | o :: l => (match o.dst with | some d => decide (d < sz) && l.all (fun x => decide (x.dst ≠ some d)) | none => false) && dstB sz l

theorem mk_lex {w0 : World} {n n' g m : Nat} {mk : Nat → Nat × Obj} {A : Act} {Lf : (Nat → Option Obj) → Act → Prop} (hmk : ∀ j, n ≤ j → j < n' → Maker P ops j (mk j).1 (mk j).2) (hsel : Region.noSelect ops = true)
    (hs : Region.sinkB md ops n' = true) (hc : Region.chainB md ops n' = true) (hn : n' < ops.size) (hnm : n + m = n') (ht : mkTail w0 mk Lf m n (fun _ => none) A) :
    ∀ (l : List Oper) (k : Nat) (listed : Array Bool) (a : Act), (∀ j, j < l.length → l[j]? = ops[k + j]?) → k + l.length = n → HeadInv md ops n' listed → (∀ q, q < k → listed.getD q true = true) →
    Region.lexHead md ops g (l.length + m) k listed = true → dstB a.tmps.size l = true → (∀ p, Below w0.heap.size w0 p → wpQuiet P ops (BWc p) (fun a' => a' = A) l a) →
    wpMk P md ops w0 n mk (fun rows listed' a' => Region.seqB md ops g n' listed' = true ∧ Lf rows a') (l.length + m) (fun _ => none) listed a
  | [], k, listed, a, _, hk, inv, hq, hB, _, h => by
    have : k = n := by simpa using hk
    subst this
    have e : a = A := h w0 (Below.refl _ _)
    subst e
    rw [List.length_nil, Nat.zero_add] at hB ⊢
    exact mk_lex_makers hmk hs hc hn m k _ listed a hnm (Nat.le_refl _) inv hq ⟨0, fun _ _ => rfl⟩ hB ht
  | o :: l, k, listed, a, hl, hk, inv, hq, hB, hd, h => by
    have h0 : ops[k]? = some o := by simpa using (hl 0 (by simp)).symm
    rw [List.length_cons, show l.length + 1 + m = (l.length + m) + 1 by omega] at hB ⊢
    simp only [Region.lexHead, Bool.and_eq_true] at hB
    obtain ⟨⟨hr, hf⟩, hB'⟩ := hB
    have hkn : k < n := by simp only [List.length_cons] at hk; omega
    have hr' : k ∈ Region.ready md ops listed := by simpa using hr
    simp only [dstB, Bool.and_eq_true] at hd
    obtain ⟨hd1, hd2⟩ := hd
    cases hdst : o.dst with
    | none => rw [hdst] at hd1; cases hd1
    | some d =>
      rw [hdst] at hd1
      simp only [Bool.and_eq_true, decide_eq_true_eq, List.all_eq_true] at hd1
      obtain ⟨hsz, hno⟩ := hd1
      have key : ∀ p, Below w0.heap.size w0 p → YieldsIn P ops (BWc p) o (A.tmps.getD d undef) a ∧ wpQuiet P ops (BWc p) (fun a' => a' = A) l (a.put (some d) (A.tmps.getD d undef)) := fun p hp => by
        have h' : if Region.wanted o (yielded ops a.tmps) = true then o.quiet P a (BWc p) (wpQuiet P ops (BWc p) (fun a' => a' = A) l) else wpQuiet P ops (BWc p) (fun a' => a' = A) l (a.put o.dst undef) := h p hp
        have val : ∀ v, wpQuiet P ops (BWc p) (fun a' => a' = A) l (a.put (some d) v) → v = A.tmps.getD d undef := fun v hv => by
          have := quiet_slot l _ hv hno
          rw [put_get_same _ _ _ hsz] at this
          rw [Array.getD_eq_getD_getElem?, this]
          rfl
        split at h'
        · rename_i hw
          obtain ⟨v, h1, h2⟩ := h'
          rw [hdst] at h2
          have e := val v h2
          rw [← e]
          exact ⟨.inl ⟨hw, h1⟩, h2⟩
        · rename_i hw
          rw [hdst] at h'
          have e := val undef h'
          rw [← e]
          exact ⟨.inr ⟨by simpa using hw, rfl⟩, h'⟩
      refine mk_first_quiet h0 (Region.noSelect_spec hsel) hs hc hn hkn (by omega) (fun rows' listed' a' hL => seqB_ready hL.1) (l.length + m) _ listed a inv (Region.free_spec h0 hf) hr' (fun p hp => (key p hp).1) ?_
      rw [hdst]
      refine mk_lex hmk hsel hs hc hn hnm ht l (k + 1) _ _ (fun j hj => by have := hl (j + 1) (by simp; omega); simpa [Nat.add_assoc, Nat.add_comm 1 j] using this) (by simp only [List.length_cons] at hk; omega) (inv.set hr' (by omega)) (fun q hqk => ?_) hB' (by rw [put_size]; exact hd2) (fun p hp => (key p hp).2)
      by_cases e : k = q
      · subst e
        have : k < listed.size := by rw [inv.size]; omega
        simp [this]
      · rw [getD_set_ne true e]
        exact hq q (by omega)

/-- THE LAW: n quiet operations, then m that each make a variable, then the tail. -/
theorem wp_region_makes {id : Nat} {Q : Exit → Act → World → Prop} {a : Act} {w : World} {l : List Oper} (n m : Nat) (mk : Nat → Nat × Obj) (hm : P.follows .mixedOrders = true) (hB : Region.lexTailB .any l.toArray (n + m) = true)
    (hd : dstB a.tmps.size (l.take n) = true) (hmk : ∀ j, n ≤ j → j < n + m → Maker P l.toArray j (mk j).1 (mk j).2)
    (h : ∃ A, (∀ p, Below w.heap.size w p → wpQuiet P l.toArray (fun w' => ∃ q : BW p, w' = q.1) (fun a' => a' = A) (l.take n) a) ∧
      mkTail w mk (fun rows a' => ∀ w', Below w.heap.size w w' → Holds rows w' → wpList P l.toArray Q (l.drop (n + m)) a' w') m n (fun _ => none) A) : (Code.region id l.toArray true).wp P Q a w := by
  obtain ⟨A, hq, ht⟩ := h
  simp only [Region.lexTailB, Bool.and_eq_true, decide_eq_true_eq] at hB
  obtain ⟨⟨⟨⟨hsel, hn⟩, hs⟩, hc⟩, hlex⟩ := hB
  have hn' : n + m < l.length := by simpa using hn
  have htl : (l.take n).length = n := by simp; omega
  have hdl : (l.drop (n + m)).length = l.toArray.size - (n + m) := by simp
  have inv0 : HeadInv .any l.toArray (n + m) (Array.replicate l.toArray.size false) :=
    ⟨by simp, fun j oj _ hl => (by rw [getD_replicate_false] at hl; cases hl), fun t _ ht => getD_in (by simpa using ht) (getD_replicate_false _ _)⟩
  have H := mk_lex (P := P) (md := .any) (g := l.toArray.size - (n + m)) hmk hsel hs hc hn rfl ht (l.take n) 0 _ a (fun j hj => by
    have hj' : j < n := by rw [htl] at hj; exact hj
    simp [hj']) (by simpa using htl) inv0 (fun q hq => absurd hq (Nat.not_lt_zero q)) (by rw [htl]; exact hlex) hd hq
  refine wp_region_any hm ?_
  have := wpAny_of_mk (Q' := Q) (g := l.toArray.size - (n + m)) (fun rows listed a' w' hb' hh' hL => by
    have := wpAny_of_seq (md := .any) (Q' := Q) (l.drop (n + m)) (n + m) listed a' w' (fun j => by simp [List.getElem?_drop]) (by rw [hdl]; exact hL.1) (hL.2 w' hb' hh')
    rwa [hdl] at this) _ _ _ _ w.drew (Below.refl _ _).drew (fun g o h => by cases h) H
  rw [htl, show n + m + (l.toArray.size - (n + m)) = l.toArray.size by omega] at this
  exact this
end
end MS
