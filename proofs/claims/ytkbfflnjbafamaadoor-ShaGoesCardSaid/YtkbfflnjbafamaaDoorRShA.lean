/-
  mailsackref01.Block: plain lemmas.
-/
import Derived.Test.YtkbfflnjbafamaaDoorShaU
namespace Go.Proofs.YtkbfflnjbafamaaDoor
open Go.RowKit MS

theorem ws1_get (b : Nat → W32) (i t : Nat) (hi : i ≤ 64) (ht : t < i) : (ws1 b i).getD t 0 = b t := by
  induction i with
  | zero => omega
  | succ i ih =>
    rw [ws1, Array.getD_eq_getD_getElem?, Array.getElem?_setIfInBounds, size_ws1]
    by_cases h : i = t
    · subst h
      rw [if_pos rfl, if_pos (by omega)]
      rfl
    · rw [if_neg h, ← Array.getD_eq_getD_getElem?]
      exact ih (by omega) (by omega)
theorem ws2_keep (p : Array W32) (i d t : Nat) (ht : t < 16 + i) : (ws2 p (i + d)).getD t 0 = (ws2 p i).getD t 0 := by
  induction d with
  | zero => rfl
  | succ d ih =>
    rw [← Nat.add_assoc, ws2, Array.getD_eq_getD_getElem?, Array.getElem?_setIfInBounds, if_neg (by omega), ← Array.getD_eq_getD_getElem?]
    exact ih
theorem sch_lo (b : Nat → W32) (t : Nat) (ht : t < 16) : (sch b).getD t 0 = b t := by
  have := ws2_keep (ws1 b 16) 0 48 t (by omega)
  rw [Nat.zero_add] at this
  rw [sch, this]
  exact ws1_get b 16 t (by omega) ht
theorem sch_hi (b : Nat → W32) (t : Nat) (h1 : 16 ≤ t) (h2 : t < 64) : (sch b).getD t 0 = nxt (sch b) t := by
  obtain ⟨i, rfl⟩ : ∃ i, t = 16 + i := ⟨t - 16, by omega⟩
  have hk : ∀ u, u < 16 + i → (sch b).getD u 0 = (ws2 (ws1 b 16) i).getD u 0 := by
    intro u hu
    have := ws2_keep (ws1 b 16) i (48 - i) u hu
    rw [show i + (48 - i) = 48 by omega] at this
    exact this
  have hs : (sch b).getD (16 + i) 0 = (ws2 (ws1 b 16) (i + 1)).getD (16 + i) 0 := by
    have := ws2_keep (ws1 b 16) (i + 1) (47 - i) (16 + i) (by omega)
    rw [show i + 1 + (47 - i) = 48 by omega] at this
    exact this
  rw [hs, ws2, Array.getD_eq_getD_getElem?, Array.getElem?_setIfInBounds, if_pos rfl, if_pos (by rw [size_ws2, size_ws1]; omega)]
  show nxt (ws2 (ws1 b 16) i) (16 + i) = _
  unfold nxt
  rw [hk _ (by omega), hk _ (by omega), hk _ (by omega), hk _ (by omega)]
/-- The first j words, as a list. -/
def wl (W : Array W32) (j : Nat) : List W32 := (List.range j).map fun t => W.getD t 0
theorem wl_succ (W : Array W32) (j : Nat) : wl W (j + 1) = wl W j ++ [W.getD j 0] := by simp [wl, List.range_succ]
theorem wvs_app (l : List W32) (x : W32) : wvs (l ++ [x]) = wvs l ++ [.int .u32 (wv x)] := by simp [wvs]
theorem own_word {B : Nat} {w : World} {v : Value} {W : Array W32} {j : Nat} (h : w.ownsRow B 25 1 v j (wvs (wl W j))) (g cap : Nat) (hv : v = .slice (some ⟨g, 0, none⟩) j cap) (t : Nat) (ht : t < j) : w.cell? ⟨g, t, none⟩ = some (.int .u32 (wv (W.getD t 0))) := by
  subst hv
  rw [h.cellAt t (by omega)]
  simp [wvs, wl, ht]
theorem nxt_eq (W : Array W32) (t : Nat) : s0 (W.getD (t - 15) 0) + s1 (W.getD (t - 2) 0) + W.getD (t - 7) 0 + W.getD (t - 16) 0 = nxt W t := by
  unfold nxt
  ac_rfl
theorem w_ch (e f g : W32) : (e &&& f) ||| (~~~e &&& g) = chs e f g := by
  unfold chs
  apply BitVec.eq_of_getLsbD_eq
  intro i hi
  simp only [BitVec.getLsbD_or, BitVec.getLsbD_and, BitVec.getLsbD_xor, BitVec.getLsbD_not, hi, decide_true, Bool.true_and]
  cases e.getLsbD i <;> cases f.getLsbD i <;> cases g.getLsbD i <;> rfl
theorem w_mj (a b c : W32) : (a &&& b) ||| (a &&& c) ||| (b &&& c) = mj a b c := by
  unfold mj
  apply BitVec.eq_of_getLsbD_eq
  intro i hi
  simp only [BitVec.getLsbD_or, BitVec.getLsbD_and, BitVec.getLsbD_xor]
  cases a.getLsbD i <;> cases b.getLsbD i <;> cases c.getLsbD i <;> rfl
theorem w_neg (x : W32) : (4294967295 - wv x) % 4294967296 = wv (~~~x) := by
  unfold wv
  rw [BitVec.toNat_not]
  have := x.isLt
  omega
end Go.Proofs.YtkbfflnjbafamaaDoor
