/-
  mailsackref06.reduce: plain lemmas, and what its walk keeps.
-/
import Derived.Test.YtkfacnegfkgcgaaPRb
namespace Go.Proofs.Ytkfacnegfkgcgaa
open Go.RowKit MS

def lo130 (u : Nat) : Nat := u % 1361129467683753853853498429727072845824
def hi130 (u : Nat) : Nat := u / 1361129467683753853853498429727072845824
theorem p130 : (1361129467683753853853498429727072845824 : Nat) = 256 ^ 16 * 4 := by decide
theorem lo_digE (u i : Nat) (h : i < 16) : lo130 u / 256 ^ i % 256 = u / 256 ^ i % 256 := by
  rw [← dig_mod 256 16 (lo130 u) i h, ← dig_mod 256 16 u i h, lo130, p130, Nat.mod_mul_right_mod]
theorem lo_dig16 (u : Nat) : lo130 u / 256 ^ 16 % 256 = u / 256 ^ 16 % 256 % 4 := by
  rw [lo130, p130, Nat.mod_mul_right_div_self]
  omega
theorem hi_digE (u j : Nat) : hi130 u / 256 ^ j % 256 = u / 256 ^ (16 + j) % 256 / 4 + u / 256 ^ (16 + j + 1) % 256 % 4 * 64 := by
  have e : hi130 u / 256 ^ j = u / 256 ^ (16 + j) / 4 := by
    rw [hi130, p130, Nat.div_div_eq_div_mul, Nat.div_div_eq_div_mul, Nat.pow_add]
    congr 1
    rw [Nat.mul_assoc, Nat.mul_assoc, Nat.mul_comm 4]
  rw [e, Nat.pow_succ, ← Nat.div_div_eq_div_mul]
  generalize u / 256 ^ (16 + j) = X
  omega
theorem lo_ltE (u : Nat) : lo130 u < 1361129467683753853853498429727072845824 := Nat.mod_lt _ (by decide)
theorem lo_lt17 (u : Nat) : lo130 u < 256 ^ 17 := Nat.lt_trans (lo_ltE u) (by decide)
theorem hi_ltE {u n : Nat} (h : u < 256 ^ n) (hn : 16 ≤ n) : hi130 u < 256 ^ (n - 16) := by
  obtain ⟨m, rfl⟩ : ∃ m, n = 16 + m := ⟨n - 16, by omega⟩
  rw [hi130, Nat.div_lt_iff_lt_mul (by decide), p130, Nat.add_sub_cancel_left]
  refine Nat.lt_of_lt_of_le h ?_
  rw [Nat.pow_add, Nat.mul_comm, ← Nat.mul_assoc]
  exact Nat.le_mul_of_pos_right _ (by decide)
theorem hi_small {u n : Nat} (h : u < 256 ^ n) (hn : n ≤ 16) : hi130 u = 0 := by
  rw [hi130, Nat.div_eq_of_lt]
  exact Nat.lt_of_lt_of_le h (Nat.le_trans (Nat.pow_le_pow_right (by decide) hn) (by decide))
theorem fold_modE (u : Nat) : (lo130 u + 5 * hi130 u) % P130 = u % P130 := by
  have h := Nat.div_add_mod u 1361129467683753853853498429727072845824
  have e : u = lo130 u + 5 * hi130 u + P130 * hi130 u := by
    unfold lo130 hi130 P130
    omega
  conv => rhs; rw [e, Nat.add_mul_mod_self_left]
theorem fold_ltE {u : Nat} (h : hi130 u ≠ 0) : lo130 u + 5 * hi130 u < u := by
  have h1 := Nat.div_add_mod u 1361129467683753853853498429727072845824
  unfold lo130 hi130 at *
  omega
theorem fold_sameE {u : Nat} (h : hi130 u = 0) : lo130 u = u := by
  have h1 := Nat.div_add_mod u 1361129467683753853853498429727072845824
  unfold lo130 hi130 at *
  omega
/-- 17 digits below 2^130, five more: whether the prime is in it. -/
theorem five_more {u : Nat} (h : u < 1361129467683753853853498429727072845824) : u + 5 < 256 ^ 17 ∧ (3 < (u + 5) / 256 ^ 16 % 256 ↔ P130 ≤ u) ∧ (P130 ≤ u → u % P130 = u + 5 - 4 * 256 ^ 16) ∧ (u < P130 → u % P130 = u) := by
  unfold P130
  rw [show (256 : Nat) ^ 16 = 340282366920938463463374607431768211456 by decide, show (256 : Nat) ^ 17 = 87112285931760246646623899502532662132736 by decide]
  refine ⟨by omega, by omega, by omega, by omega⟩
/-- The 17th digit, four less. -/
theorem dg_less {v : Nat} (h : 3 < v / 256 ^ 16 % 256) (hv : v < 256 ^ 17) : (dgn 256 17 v).set 16 (v / 256 ^ 16 % 256 - 4) = dgn 256 17 (v - 4 * 256 ^ 16) := by
  have e1 : v - 4 * 256 ^ 16 + 4 * 256 ^ 16 = v := by
    rw [show (256 : Nat) ^ 16 = 340282366920938463463374607431768211456 by decide] at *
    omega
  rw [show dgn 256 17 v = dgn 256 16 v ++ [v / 256 ^ 16 % 256] from dg_succ _ _ _, show dgn 256 17 (v - 4 * 256 ^ 16) = dgn 256 16 (v - 4 * 256 ^ 16) ++ [(v - 4 * 256 ^ 16) / 256 ^ 16 % 256] from dg_succ _ _ _, List.set_append_right _ _ (by rw [length_dgn]; exact Nat.le_refl _), length_dgn]
  have a1 : dgn 256 16 v = dgn 256 16 (v - 4 * 256 ^ 16) := by
    refine dg_congr _ _ _ _ ?_
    conv => lhs; rw [← e1]
    rw [Nat.add_mul_mod_self_right]
  have a2 : v / 256 ^ 16 % 256 - 4 = (v - 4 * 256 ^ 16) / 256 ^ 16 % 256 := by
    clear e1 a1
    rw [show (256 : Nat) ^ 16 = 340282366920938463463374607431768211456 by decide] at *
    rw [show (256 : Nat) ^ 17 = 87112285931760246646623899502532662132736 by decide] at hv
    omega
  rw [Nat.sub_self, List.set_cons_zero, a1, a2]
theorem low_app (u j : Nat) (h : j < 16) : dgn 256 (j + 1) (lo130 u) = dgn 256 j (lo130 u) ++ [u / 256 ^ j % 256] := by
  rw [dg_succ, lo_digE u j h]
theorem low_app16 (u : Nat) : dgn 256 17 (lo130 u) = dgn 256 16 (lo130 u) ++ [u / 256 ^ 16 % 256 % 4] := by
  rw [dg_succ, lo_dig16]
theorem high_getE (u n j : Nat) (hn : u < 256 ^ n) (h16 : 16 ≤ j) : u / 256 ^ j % 256 / 4 + (if j + 1 < n then u / 256 ^ (j + 1) % 256 % 4 * 64 else 0) = hi130 u / 256 ^ (j - 16) % 256 := by
  rw [hi_digE, show 16 + (j - 16) = j by omega]
  split
  · rfl
  · rw [dig_zero hn (by decide) (show n ≤ j + 1 by omega)]
theorem high_appE (u j : Nat) (h16 : 16 ≤ j) : dgn 256 (j + 1 - 16) (hi130 u) = dgn 256 (j - 16) (hi130 u) ++ [hi130 u / 256 ^ (j - 16) % 256] := by
  rw [show j + 1 - 16 = j - 16 + 1 by omega, dg_succ]
/-- Is there anything in the digits so far? -/
def anyH (u k : Nat) : Bool := decide (hi130 u % 256 ^ k ≠ 0)
theorem anyH_zero (u : Nat) : anyH u 0 = false := by simp [anyH, Nat.mod_one]
theorem anyH_succ (u k : Nat) : anyH u (k + 1) = (anyH u k || decide (0 < hi130 u / 256 ^ k % 256)) := by
  unfold anyH
  rw [mod_succ, Bool.eq_iff_iff]
  simp only [decide_eq_true_eq, Bool.or_eq_true]
  have hp : 0 < 256 ^ k := Nat.pow_pos (by decide)
  constructor
  · intro h
    by_cases h1 : hi130 u % 256 ^ k = 0
    · right
      refine Nat.pos_of_ne_zero fun h2 => h ?_
      rw [h1, h2, Nat.mul_zero]
    · exact .inl h1
  · rintro (h | h)
    · omega
    · have := Nat.mul_pos hp h
      omega
theorem anyH_end {u k : Nat} (h : hi130 u < 256 ^ k) : anyH u k = decide (hi130 u ≠ 0) := by rw [anyH, Nat.mod_eq_of_lt h]
/-- Two rows of the call's own in different blocks. -/
def apart (x y : Value) : Prop := ∀ k, x.ownBlock = some k → y.ownBlock ≠ some k
/-- What the inner loop keeps. -/
structure PRt (w0 : World) (u k1 k2 : Nat) (x y : Value) (w : World) : Prop where
  low : w.ownsRow w0.heap.size 3 1 x k1 (evs (dgn 256 k1 (lo130 u)))
  high : w.ownsRow w0.heap.size 3 1 y k2 (evs (dgn 256 k2 (hi130 u)))
  ap : apart x y
  bel : Below w0.heap.size w0 w
theorem PRt.drewN {w0 : World} {u k1 k2 : Nat} {x y : Value} {w : World} (h : PRt w0 u k1 k2 x y w) (m : Nat) : PRt w0 u k1 k2 x y (w.drewN m) := ⟨h.low, h.high, h.ap, below_drewN h.bel m⟩
theorem PRt.start (w : World) (u : Nat) : PRt w u 0 0 (.slice none 0 0) (.slice none 0 0) w := ⟨World.ownsRow_nil _ _ _ _, World.ownsRow_nil _ _ _ _, fun _ h => by simp [Value.ownBlock] at h, Below.refl _ _⟩
/-- Something appended to low: in its own block, or in a new one. -/
theorem PRt.appLow {w0 : World} {u k1 k1' k2 : Nat} {x y : Value} {w w' : World} (h : PRt w0 u k1 k2 x y w) (o : Obj) {g n cap H : Nat} (hH : (w.alloc o).heap.size = H) (ho : w'.ownsRow w0.heap.size 3 1 (.slice (some ⟨g, 0, none⟩) n cap) k1' (evs (dgn 256 k1' (lo130 u))))
    (hg : (w.alloc o).grownBy w' x.ownBlock) (hn : x.ownBlock = some g ∨ g = H) : PRt w0 u k1' k2 (.slice (some ⟨g, 0, none⟩) n cap) y w' := by
  have hs : H = w.heap.size + 1 := by rw [← hH, World.size_alloc]
  refine ⟨ho, (h.high.alloc o).kept hg ?_, ?_, ?_⟩
  · cases hy : y.ownBlock with
    | none => exact .inl rfl
    | some k => exact .inr fun e => h.ap k e.symm hy
  · intro k hk
    simp [Value.ownBlock] at hk
    subst hk
    rcases hn with hn | hn
    · exact h.ap _ hn
    · intro e
      have := (h.high.lt _ e).2
      omega
  · exact (below_alloc h.bel o).grown hg (by rw [hH, hs]; exact Nat.le_succ_of_le h.bel.size) (fun m hm => (h.low.lt m hm).1)
theorem PRt.appHigh {w0 : World} {u k1 k2 k2' : Nat} {x y : Value} {w w' : World} (h : PRt w0 u k1 k2 x y w) (o : Obj) {g n cap H : Nat} (hH : (w.alloc o).heap.size = H) (ho : w'.ownsRow w0.heap.size 3 1 (.slice (some ⟨g, 0, none⟩) n cap) k2' (evs (dgn 256 k2' (hi130 u))))
    (hg : (w.alloc o).grownBy w' y.ownBlock) (hn : y.ownBlock = some g ∨ g = H) : PRt w0 u k1 k2' x (.slice (some ⟨g, 0, none⟩) n cap) w' := by
  have hs : H = w.heap.size + 1 := by rw [← hH, World.size_alloc]
  refine ⟨(h.low.alloc o).kept hg ?_, ho, ?_, ?_⟩
  · cases hx : x.ownBlock with
    | none => exact .inl rfl
    | some k => exact .inr fun e => h.ap k hx e.symm
  · intro k hk
    simp only [Value.ownBlock]
    rcases hn with hn | hn
    · intro e
      cases e
      exact h.ap _ hk hn
    · intro e
      cases e
      have := (h.low.lt _ hk).2
      omega
  · exact (below_alloc h.bel o).grown hg (by rw [hH, hs]; exact Nat.le_succ_of_le h.bel.size) (fun m hm => (h.high.lt m hm).1)
/-- The number that a slice of digits holds. -/
def sumE (f : Nat → Nat) : Nat → Nat
  | 0 => 0
  | n + 1 => sumE f n + 256 ^ n * f n
theorem sumE_congr {f h : Nat → Nat} (n : Nat) (hf : ∀ i, i < n → f i = h i) : sumE f n = sumE h n := by
  induction n with
  | zero => rfl
  | succ n ih => rw [sumE, sumE, ih (fun i hi => hf i (by omega)), hf n (by omega)]
theorem sumE_dig (u n : Nat) : sumE (fun i => u / 256 ^ i % 256) n = u % 256 ^ n := by
  induction n with
  | zero => simp [sumE, Nat.mod_one]
  | succ n ih => rw [sumE, ih, mod_succ]
def cellE (w : World) (a : Addr) : Nat := match w.cell? a with
  | some (.int _ x) => x.toNat
  | _ => 0
def numE (w : World) : Value → Nat
  | .slice (some a) n _ => sumE (fun i => cellE w ⟨a.block, i, none⟩) n
  | _ => 0
theorem ES.num {w : World} {base n u : Nat} {v : Value} (h : ES w base v n u) : numE w v = u := by
  obtain ⟨g, cap, rfl, -, -⟩ := h.form
  rw [numE, sumE_congr (h := fun i => u / 256 ^ i % 256) n (fun i hi => by show cellE w ⟨g, i, none⟩ = _; rw [cellE, h.cell i hi]; exact Int.toNat_natCast _), sumE_dig, Nat.mod_eq_of_lt h.2.1]
theorem own_takeE {w : World} {base g n cap m : Nat} {e : TypeId} {xs : List Value} (h : w.ownsRow base e 1 (.slice (some ⟨g, 0, none⟩) n cap) n xs) (hm : m ≤ n) : w.ownsRow base e 1 (.slice (some ⟨g, 0, none⟩) m cap) m (xs.take m) := by
  rcases h.2 with ⟨h', _⟩ | ⟨g', cap', cur, h', hb, hg, hnc, hcm, hcs, htake⟩
  · simp at h'
  · simp only [Value.slice.injEq, Option.some.injEq, Addr.mk.injEq, and_true, true_and] at h'
    obtain ⟨rfl, rfl⟩ := h'
    have hl := h.1
    refine ⟨by rw [List.length_take]; omega, .inr ⟨g, cap, cur, rfl, hb, hg, by omega, hcm, hcs, ?_⟩⟩
    rw [← htake, List.take_take]
    congr 1
    omega
theorem evs_take (l : List Nat) (m : Nat) : (evs l).take m = evs (l.take m) := by simp [evs, List.map_take]
theorem dgn_takeE (B n m u : Nat) (h : m ≤ n) : (dgn B n u).take m = dgn B m u := by
  apply List.ext_getElem?
  intro i
  rw [List.getElem?_take]
  by_cases hi : i < m
  · rw [if_pos hi, dg_get _ _ _ _ hi, dg_get _ _ _ _ (by omega)]
  · rw [if_neg hi, List.getElem?_eq_none (by rw [length_dgn]; omega)]
end Go.Proofs.Ytkfacnegfkgcgaa
