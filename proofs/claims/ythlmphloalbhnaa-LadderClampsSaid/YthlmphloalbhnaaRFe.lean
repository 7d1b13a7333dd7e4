/-
  mailsackref03.Reduce: plain lemmas, and what its walk keeps.
-/
import Derived.Test.YthlmphloalbhnaaRFd
namespace Go.Proofs.Ythlmphloalbhnaa
open Go.RowKit MS

/-- The number that a slice of digits holds. -/
def sumD (f : Nat → Nat) : Nat → Nat
  | 0 => 0
  | n + 1 => sumD f n + 65536 ^ n * f n
theorem sumD_congr {f h : Nat → Nat} (n : Nat) (hf : ∀ i, i < n → f i = h i) : sumD f n = sumD h n := by
  induction n with
  | zero => rfl
  | succ n ih => rw [sumD, sumD, ih (fun i hi => hf i (by omega)), hf n (by omega)]
theorem sumD_dig (u n : Nat) : sumD (fun i => u / 65536 ^ i % 65536) n = u % 65536 ^ n := by
  induction n with
  | zero => simp [sumD, Nat.mod_one]
  | succ n ih => rw [sumD, ih, mod_succ]
def cellN (w : World) (a : Addr) : Nat := match w.cell? a with
  | some (.int _ x) => x.toNat
  | _ => 0
def numOf (w : World) : Value → Nat
  | .slice (some a) n _ => sumD (fun i => cellN w ⟨a.block, i, none⟩) n
  | _ => 0
def lenOf : Value → Nat
  | .slice _ n _ => n
  | _ => 0
theorem DS.num {w : World} {base n u : Nat} {v : Value} (h : DS w base v n u) : numOf w v = u := by
  obtain ⟨g, cap, rfl, -, -⟩ := h.form
  rw [numOf, sumD_congr (h := fun i => u / 65536 ^ i % 65536) n (fun i hi => by show cellN w ⟨g, i, none⟩ = _; rw [cellN, h.cell i hi]; exact Int.toNat_natCast _), sumD_dig, Nat.mod_eq_of_lt h.2.1]
theorem DS.len {w : World} {base n u : Nat} {v : Value} (h : DS w base v n u) : lenOf v = n := by
  obtain ⟨g, cap, rfl, -, -⟩ := h.form
  rfl
def redM (v : Value) (w : World) : Nat := 2 * numOf w v + if lenOf v > 16 then 1 else 0
/-- Cut at its end. -/
theorem own_take {w : World} {base g n cap m : Nat} {e : TypeId} {xs : List Value} (h : w.ownsRow base e 1 (.slice (some ⟨g, 0, none⟩) n cap) n xs) (hm : m ≤ n) : w.ownsRow base e 1 (.slice (some ⟨g, 0, none⟩) m cap) m (xs.take m) := by
  rcases h.2 with ⟨h', _⟩ | ⟨g', cap', cur, h', hb, hg, hnc, hcm, hcs, htake⟩
  · simp at h'
  · simp only [Value.slice.injEq, Option.some.injEq, Addr.mk.injEq, and_true, true_and] at h'
    obtain ⟨rfl, rfl⟩ := h'
    have hl := h.1
    refine ⟨by rw [List.length_take]; omega, .inr ⟨g, cap, cur, rfl, hb, hg, by omega, hcm, hcs, ?_⟩⟩
    rw [← htake, List.take_take]
    congr 1
    omega
theorem dgn_take (B n m u : Nat) (h : m ≤ n) : (dgn B n u).take m = dgn B m u := by
  apply List.ext_getElem?
  intro i
  rw [List.getElem?_take]
  by_cases hi : i < m
  · rw [if_pos hi, dg_get _ _ _ _ hi, dg_get _ _ _ _ (by omega)]
  · rw [if_neg hi, List.getElem?_eq_none (by rw [length_dgn]; omega)]
theorem dvs_take (l : List Nat) (m : Nat) : (dvs l).take m = dvs (l.take m) := by simp [dvs, List.map_take]
/-- The row low behind j rounds. -/
def lowL (u j : Nat) : List Nat := (List.range 16).map fun p => if p < j then lo255 u / 65536 ^ p % 65536 else 0
theorem length_lowL (u j : Nat) : (lowL u j).length = 16 := by simp [lowL]
theorem lowL_get (u j p : Nat) (h : p < 16) : (lowL u j)[p]? = some (if p < j then lo255 u / 65536 ^ p % 65536 else 0) := by simp [lowL, h]
theorem lowL_zero (u : Nat) : lowL u 0 = dgn 65536 16 0 := by
  rw [dg_zero]
  apply List.ext_getElem?
  intro p
  by_cases h : p < 16
  · rw [lowL_get _ _ _ h, List.getElem?_replicate, if_pos h, if_neg (Nat.not_lt_zero p)]
  · rw [List.getElem?_eq_none (by rw [length_lowL]; omega), List.getElem?_eq_none (by simp; omega)]
theorem lowL_set (u j x : Nat) (h : j < 16) (hx : x = lo255 u / 65536 ^ j % 65536) : (lowL u j).set j x = lowL u (j + 1) := by
  subst hx
  apply List.ext_getElem?
  intro p
  rw [List.getElem?_set, length_lowL]
  by_cases hp : p < 16
  · rw [lowL_get _ _ _ hp, lowL_get _ _ _ hp]
    by_cases e : j = p
    · subst e
      rw [if_pos rfl, if_pos hp, if_pos (by omega)]
    · rw [if_neg e]
      by_cases h2 : p < j
      · rw [if_pos h2, if_pos (by omega)]
      · rw [if_neg h2, if_neg (by omega)]
  · rw [if_neg (by omega), List.getElem?_eq_none (by rw [length_lowL]; omega), List.getElem?_eq_none (by rw [length_lowL]; omega)]
theorem lowL_more (u j : Nat) (h : 16 ≤ j) : lowL u (j + 1) = lowL u j := by
  unfold lowL
  apply List.map_congr_left
  intro p hp
  have := List.mem_range.1 hp
  rw [if_pos (by omega), if_pos (by omega)]
theorem lowL_end (u j : Nat) (h : 16 ≤ j) : lowL u j = dgn 65536 16 (lo255 u) := by
  unfold lowL dgn
  apply List.map_congr_left
  intro p hp
  have := List.mem_range.1 hp
  rw [if_pos (by omega)]
theorem high_get (u n j : Nat) (hn : u < 65536 ^ n) (h15 : 15 ≤ j) : u / 65536 ^ j % 65536 / 32768 + (if j + 1 < n then u / 65536 ^ (j + 1) % 65536 % 32768 * 2 else 0) = hi255 u / 65536 ^ (j - 15) % 65536 := by
  rw [hi_dig, show 15 + (j - 15) = j by omega]
  split
  · rfl
  · rw [dig_zero hn (by decide) (show n ≤ j + 1 by omega)]
theorem high_app (u j : Nat) (h15 : 15 ≤ j) : dgn 65536 (j + 1 - 15) (hi255 u) = dgn 65536 (j - 15) (hi255 u) ++ [hi255 u / 65536 ^ (j - 15) % 65536] := by
  rw [show j + 1 - 15 = j - 15 + 1 by omega, dg_succ]
/-- What the inner loop keeps: the row low at g, the row high, all that lay before. -/
structure RSt (w0 : World) (g u j k : Nat) (x : Value) (w : World) : Prop where
  low : TSt g 16 w0 (lowL u j) w
  high : w.ownsRow (g + 1) 3 1 x k (dvs (dgn 65536 k (hi255 u)))
theorem RSt.drewN {w0 : World} {g u j k : Nat} {x : Value} {w : World} (h : RSt w0 g u j k x w) (m : Nat) : RSt w0 g u j k x (w.drewN m) := ⟨h.low.drewN m, h.high⟩
theorem RSt.put {w0 : World} {g u j k : Nat} {x : Value} {w : World} (h : RSt w0 g u j k x w) (hj : j < 16) (d : Nat) (hd : d = lo255 u / 65536 ^ j % 65536) (v : Value) (hv : v = .int .i64 (d : Int)) : RSt w0 g u (j + 1) k x (w.setCell ⟨g, j, none⟩ v) := by
  refine ⟨?_, ?_⟩
  · rw [← lowL_set u j d hj hd]
    exact h.low.put j d v hv
  · refine h.high.kept (h.low.own.stored j v).2 ?_
    by_cases hb : x.ownBlock = some g
    · have := (h.high.lt g hb).1
      omega
    · exact .inr hb
theorem RSt.skip {w0 : World} {g u j k : Nat} {x : Value} {w : World} (h : RSt w0 g u j k x w) (hj : 16 ≤ j) : RSt w0 g u (j + 1) k x w := ⟨by rw [lowL_more u j hj]; exact h.low, h.high⟩
/-- Something appended to high, whose block is not low's. -/
theorem RSt.app {w0 : World} {g u j k k' : Nat} {x x' : Value} {w w' : World} (h : RSt w0 g u j k x w) (o : Obj) (hg : (w.alloc o).grownBy w' x.ownBlock) (ho : w'.ownsRow (g + 1) 3 1 x' k' (dvs (dgn 65536 k' (hi255 u)))) : RSt w0 g u j k' x' w' := by
  have hge := (own_cap h.low.own).2.2.1
  refine ⟨⟨(h.low.own.alloc o).kept hg ?_, ?_⟩, ho⟩
  · right
    intro e
    have := (h.high.lt g e.symm).1
    omega
  · exact (below_alloc h.low.bel o).grown hg (by rw [World.size_alloc]; exact Nat.le_succ_of_le h.low.bel.size) (fun m hm => by have := (h.high.lt m hm).1; omega)
end Go.Proofs.Ythlmphloalbhnaa
