/-
  mailsackref06: digits in slices; add.
-/
import Derived.Test.YtkfacnegfkgcgaaOwn2
import Derived.Test.YtkfacnegfkgcgaaPolQ
import Derived.Test.YtkfacnegfkgcgaaBQ
import Derived.Laws.OwnMore
import Derived.OwnWalk
import Derived.Deep.RegionWith
namespace Go.Proofs.Ytkfacnegfkgcgaa
open Go.RowKit MS

def evs (l : List Nat) : List Value := l.map (fun n => .int .i64 ((n : Nat) : Int))
theorem evs_app (l : List Nat) (n : Nat) : evs (l ++ [n]) = evs l ++ [.int .i64 ((n : Nat) : Int)] := by simp [evs]
theorem length_evs (l : List Nat) : (evs l).length = l.length := by simp [evs]
/-- A slice of n digits of u. -/
def ES (w : World) (base : Nat) (v : Value) (n u : Nat) : Prop := w.ownsRow base 3 1 v n (evs (dgn 256 n u)) ∧ u < 256 ^ n ∧ 0 < n ∧ n ≤ 100
theorem ES.on {w w' : World} {base n u : Nat} {v : Value} (h : ES w base v n u) (hb : Below w.heap.size w w') : ES w' base v n u := ⟨ownsRow_on h.1 hb, h.2⟩
theorem ES.form {w : World} {base n u : Nat} {v : Value} (h : ES w base v n u) : ∃ g cap, v = .slice (some ⟨g, 0, none⟩) n cap ∧ base ≤ g ∧ g < w.heap.size := h.1.form h.2.2.1
theorem ES.base {w : World} {base base' n u : Nat} {v : Value} (h : ES w base v n u) (hb : base' ≤ base) : ES w base' v n u := by
  refine ⟨⟨h.1.1, ?_⟩, h.2⟩
  rcases h.1.2 with h1 | ⟨g, cap, cur, h1, h2, h3⟩
  · exact .inl h1
  · exact .inr ⟨g, cap, cur, h1, Nat.le_trans hb h2, h3⟩
theorem ES.cell {w : World} {base g cap n u : Nat} (h : ES w base (.slice (some ⟨g, 0, none⟩) n cap) n u) (i : Nat) (hi : i < n) : w.cell? ⟨g, i, none⟩ = some (.int .i64 ((u / 256 ^ i % 256 : Nat) : Int)) := by
  rw [h.1.cellAt i (by omega), evs, List.getElem?_map, dg_get _ _ _ _ hi]
  rfl
theorem ES.cells {w : World} {base g cap n u : Nat} (h : ES w base (.slice (some ⟨g, 0, none⟩) n cap) n u) : ∀ w', Below w.heap.size w w' → ∀ i, i < n → w'.cell? ⟨g, i, none⟩ = some (.int .i64 ((u / 256 ^ i % 256 : Nat) : Int)) :=
  fun _ hb i hi => (h.on hb).cell i hi

theorem cry_topE (u v k : Nat) (hu : u < 256 ^ k) (hv : v < 256 ^ k) : cry 256 u v (k + 1) = 0 := by
  unfold cry
  rw [Nat.pow_succ]
  generalize 256 ^ k = X at *
  rw [Nat.mod_eq_of_lt (by omega), Nat.mod_eq_of_lt (by omega), Nat.div_eq_of_lt (by omega)]
/-- What add has gathered. -/
structure EAd (w0 : World) (u v : Nat) (x : Value) (j : Nat) (w : World) : Prop where
  own : w.ownsRow w0.heap.size 3 1 x j (evs (dgn 256 j (u + v)))
  bel : Below w0.heap.size w0 w

set_option maxRecDepth 1000000 in
set_option maxHeartbeats 2000000 in
theorem padd_any (n m u v : Nat) (va vb : Value) (ba bb : Nat) (w : World) (ha : ES w ba va n u) (hb : ES w bb vb m v) :
    Calls Try.prog 47 #[va, vb] w fun e w' => Below w.heap.size w w' ∧ ∃ r k, e = .returned r ∧ n ≤ k ∧ m ≤ k ∧ k ≤ max n m + 1 ∧ u + v < 256 ^ k ∧ w'.ownsRow w.heap.size 3 1 r k (evs (dgn 256 k (u + v))) := by
  obtain ⟨i0, hi, hz0, hz1, hz2⟩ : ∃ i, Try.prog.info? 3 = some i ∧ i.zero = some (.int .i64 0) ∧ i.size = 1 ∧ i.bytes = 8 := ⟨_, rfl, rfl, rfl, rfl⟩
  obtain ⟨ga, ca, rfl, -, -⟩ := ha.form
  obtain ⟨gb, cb, rfl, -, -⟩ := hb.form
  have HA := Lib.hid ha.cells
  have HB := Lib.hid hb.cells
  have HN := Lib.hid ha.2
  have HM := Lib.hid hb.2
  have hown0 : w.ownsRow w.heap.size 3 1 (.slice none 0 0) 0 (evs (dgn 256 0 (u + v))) := World.ownsRow_nil _ _ _ _
  clear ha hb
  go_enter Try.func47, Try.ntmps47
  go_wp2_with fail
  go_loopw [5, 6, 7] (fun x c i wr => ∃ j : Nat, j ≤ max n m + 1 ∧ i = .int .i64 j ∧ c = .int .i64 ((cry 256 u v j : Nat) : Int) ∧ EAd w u v x j wr) (fun _ _ i _ => 300 - (intOf i).toNat)
  case atStart => exact ⟨0, by omega, rfl, by rw [cry_zero]; rfl, hown0, Below.refl _ _⟩
  case round =>
    obtain ⟨j, hj, rfl, rfl, hr⟩ := hrel
    have HOWN := Lib.hid hr.own
    have HBL := Lib.hid hr.bel
    have HJ := Lib.hid hj
    clear hr hown0 hj
    -- ROUND
    have HCZ := Lib.hid (show j = max n m + 1 → cry 256 u v j = 0 from fun e => by
      rw [e]
      exact cry_topE _ _ _ (Nat.lt_of_lt_of_le HN.out.1 (Nat.pow_le_pow_right (by decide) (Nat.le_max_left n m))) (Nat.lt_of_lt_of_le HM.out.1 (Nat.pow_le_pow_right (by decide) (Nat.le_max_right n m))))
    have hc1 := cry_le 256 u v j (by decide)
    have hD := add_digit 256 u v j (by decide)
    have hC := add_carry 256 u v j (by decide)
    have hx := dig_lt 256 (by decide) u j
    have hy := dig_lt 256 (by decide) v j
    have hx0 := Lib.hid (show n ≤ j → u / 256 ^ j % 256 = 0 from fun h => dig_zero HN.out.1 (by decide) h)
    have hy0 := Lib.hid (show m ≤ j → v / 256 ^ j % 256 = 0 from fun h => dig_zero HM.out.1 (by decide) h)
    have hend := Lib.hid (show n ≤ j → m ≤ j → cry 256 u v j = 0 → u + v < 256 ^ j from fun h1 h2 h3 => add_ends HN.out.1 HM.out.1 (by decide) h1 h2 h3)
    have hS := dg_succ 256 j (u + v)
    rw [hD] at hS
    have CA := Lib.hid (fun h => HA.out wr HBL.out j h)
    have CB := Lib.hid (fun h => HB.out wr HBL.out j h)
    generalize u / 256 ^ j % 256 = x at *
    generalize v / 256 ^ j % 256 = y at *
    generalize cry 256 u v j = c at *
    have HNEXT := Lib.hid (show ∀ (x1 : Value) (w1 : World), w1.ownsRow w.heap.size 3 1 x1 (j + 1) (evs (dgn 256 j (u + v)) ++ [.int .i64 (((c + x + y : Nat) : Int) % 256)]) → w1.ownsRow w.heap.size 3 1 x1 (j + 1) (evs (dgn 256 (j + 1) (u + v))) from by
      intro x1 w1 h
      rw [hS, evs_app, Int.natCast_emod]
      exact h)
    have HC := Lib.hid hC
    clear hD hC hS
    have jn : (0 : Int) ≤ j := Int.natCast_nonneg j
    have jb : (j : Int) ≤ 200 := by have := HJ.out; have := HN.out.2.2; have := HM.out.2.2; omega
    have HML := Lib.hid (show j + 1 ≤ maxLen by have := HJ.out; have := HN.out.2.2; have := HM.out.2.2; unfold maxLen; omega)
    have HMB := Lib.hid (show (j + 1) * 8 ≤ 140737488355328 by have := HJ.out; have := HN.out.2.2; have := HM.out.2.2; omega)
    by_cases h1 : j < n
    · have j1 : (j : Int) < n := by omega
      have HLT := Lib.hid h1
      by_cases h2 : j < m
      · have j2 : (j : Int) < m := by omega
        have HGO := Lib.hid (show j < max n m + 1 by have := HLT.out; omega)
        have ca := CA.out (by omega)
        have cb := CB.out (by omega)
        obtain ⟨S, hSS⟩ : ∃ S : Nat, S = c + x + y := ⟨_, rfl⟩
        rw [← hSS] at HNEXT HC
        have qs : (c : Int) + (x : Int) + (y : Int) = (S : Int) := by omega
        have s1 : (S : Int) < 200000 := by omega
        have s0 : (0 : Int) ≤ (S : Int) := by omega
        have c0 : (0 : Int) ≤ (c : Int) := by omega
        have c1 : (c : Int) ≤ 1 := by omega
        have b1 : (x : Int) < 256 := by omega
        have b0 : (0 : Int) ≤ (x : Int) := by omega
        have d1 : (y : Int) < 256 := by omega
        have d0 : (0 : Int) ≤ (y : Int) := by omega
        clear hSS hx hy hc1
        have HAL := Lib.hid (HOWN.out.alloc (.cells #[.int .i64 ((S : Int) % 256)] 3 (0, 0)))
        have hs0 : _ ≤ wr.heap.size := HBL.out.size
        go_wp2_with (at_builtin; refine wpList_append_own _ rfl (.tmp 46) (.tmp 49) 67 rfl _ 3 i0 (.int .i64 0) 1 8 Try.underlying67 hi hz0 hz1 hz2 rfl (by decide) _ _ _ rfl HAL.out ⟨wr.heap.size, 0, none⟩ 1 1 [.int .i64 ((S : Int) % 256)] rfl rfl (one_cell wr _ _) (one_one _ rfl) HML.out HMB.out (le_alloc hs0 _) ?_)
        intro v1 w1 h1 h2 h3
        have HB1 := Lib.hid (below_app HBL.out _ _ _ _ _ HOWN.out h2)
        have HO1 := Lib.hid (HNEXT.out _ _ h1)
        clear h1 h2 h3 hs0
        go_wp2_with fail
        go_roundw
        case rel => exact ⟨j + 1, by have := HGO.out; omega, by go_num, by rw [HC.out]; go_num, HO1.out, HB1.out⟩
        case measure => simp [intOf]; have := HGO.out; have := HN.out.2.2; have := HM.out.2.2; omega
      · have j2 : ¬ (j : Int) < m := by omega
        have HGO := Lib.hid (show j < max n m + 1 by have := HLT.out; omega)
        have y0 : y = 0 := hy0.out (by omega)
        subst y0
        have ca := CA.out (by omega)
        obtain ⟨S, hSS⟩ : ∃ S : Nat, S = c + x + 0 := ⟨_, rfl⟩
        rw [← hSS] at HNEXT HC
        have qs : (c : Int) + (x : Int) = (S : Int) := by omega
        have s1 : (S : Int) < 200000 := by omega
        have s0 : (0 : Int) ≤ (S : Int) := by omega
        have c0 : (0 : Int) ≤ (c : Int) := by omega
        have c1 : (c : Int) ≤ 1 := by omega
        have b1 : (x : Int) < 256 := by omega
        have b0 : (0 : Int) ≤ (x : Int) := by omega
        clear hSS hx hy hc1
        have HAL := Lib.hid (HOWN.out.alloc (.cells #[.int .i64 ((S : Int) % 256)] 3 (0, 0)))
        have hs0 : _ ≤ wr.heap.size := HBL.out.size
        go_wp2_with (at_builtin; refine wpList_append_own _ rfl (.tmp 46) (.tmp 49) 67 rfl _ 3 i0 (.int .i64 0) 1 8 Try.underlying67 hi hz0 hz1 hz2 rfl (by decide) _ _ _ rfl HAL.out ⟨wr.heap.size, 0, none⟩ 1 1 [.int .i64 ((S : Int) % 256)] rfl rfl (one_cell wr _ _) (one_one _ rfl) HML.out HMB.out (le_alloc hs0 _) ?_)
        intro v1 w1 h1 h2 h3
        have HB1 := Lib.hid (below_app HBL.out _ _ _ _ _ HOWN.out h2)
        have HO1 := Lib.hid (HNEXT.out _ _ h1)
        clear h1 h2 h3 hs0
        go_wp2_with fail
        go_roundw
        case rel => exact ⟨j + 1, by have := HGO.out; omega, by go_num, by rw [HC.out]; go_num, HO1.out, HB1.out⟩
        case measure => simp [intOf]; have := HGO.out; have := HN.out.2.2; have := HM.out.2.2; omega
    · have j1 : ¬ (j : Int) < n := by omega
      by_cases h2 : j < m
      · have j2 : (j : Int) < m := by omega
        have HLT := Lib.hid h2
        have HGO := Lib.hid (show j < max n m + 1 by have := HLT.out; omega)
        have x0 : x = 0 := hx0.out (by omega)
        subst x0
        have cb := CB.out (by omega)
        obtain ⟨S, hSS⟩ : ∃ S : Nat, S = c + 0 + y := ⟨_, rfl⟩
        rw [← hSS] at HNEXT HC
        have qs : (c : Int) + (y : Int) = (S : Int) := by omega
        have s1 : (S : Int) < 200000 := by omega
        have s0 : (0 : Int) ≤ (S : Int) := by omega
        have c0 : (0 : Int) ≤ (c : Int) := by omega
        have c1 : (c : Int) ≤ 1 := by omega
        have d1 : (y : Int) < 256 := by omega
        have d0 : (0 : Int) ≤ (y : Int) := by omega
        clear hSS hx hy hc1
        have HAL := Lib.hid (HOWN.out.alloc (.cells #[.int .i64 ((S : Int) % 256)] 3 (0, 0)))
        have hs0 : _ ≤ wr.heap.size := HBL.out.size
        go_wp2_with (at_builtin; refine wpList_append_own _ rfl (.tmp 46) (.tmp 49) 67 rfl _ 3 i0 (.int .i64 0) 1 8 Try.underlying67 hi hz0 hz1 hz2 rfl (by decide) _ _ _ rfl HAL.out ⟨wr.heap.size, 0, none⟩ 1 1 [.int .i64 ((S : Int) % 256)] rfl rfl (one_cell wr _ _) (one_one _ rfl) HML.out HMB.out (le_alloc hs0 _) ?_)
        intro v1 w1 h1 h2 h3
        have HB1 := Lib.hid (below_app HBL.out _ _ _ _ _ HOWN.out h2)
        have HO1 := Lib.hid (HNEXT.out _ _ h1)
        clear h1 h2 h3 hs0
        go_wp2_with fail
        go_roundw
        case rel => exact ⟨j + 1, by have := HGO.out; omega, by go_num, by rw [HC.out]; go_num, HO1.out, HB1.out⟩
        case measure => simp [intOf]; have := HGO.out; have := HN.out.2.2; have := HM.out.2.2; omega
      · have j2 : ¬ (j : Int) < m := by omega
        by_cases h3 : c = 0
        · subst h3
          have he := Lib.hid (hend.out (by omega) (by omega) rfl)
          clear CA CB HNEXT HC
          go_wp2_with fail
          go_ret
          exact ⟨HBL.out, _, rfl, j, by omega, by omega, HJ.out, he.out, HOWN.out⟩
        · obtain rfl : c = 1 := by omega
          have HGO := Lib.hid (show j < max n m + 1 from by
            refine Nat.lt_of_le_of_ne HJ.out fun e => h3 (HCZ.out e))
          have x0 : x = 0 := hx0.out (by omega)
          subst x0
          have y0 : y = 0 := hy0.out (by omega)
          subst y0
          clear h3 hx hy hc1 hend HCZ CA CB hx0 hy0 HA HB
          rw [show ((1 : Nat) : Int) = 1 from rfl]
          have HAL := Lib.hid (HOWN.out.alloc (.cells #[.int .i64 1] 3 (0, 0)))
          have hs0 : _ ≤ wr.heap.size := HBL.out.size
          go_wp2_with (at_builtin; refine wpList_append_own _ rfl (.tmp 46) (.tmp 49) 67 rfl _ 3 i0 (.int .i64 0) 1 8 Try.underlying67 hi hz0 hz1 hz2 rfl (by decide) _ _ _ rfl HAL.out ⟨wr.heap.size, 0, none⟩ 1 1 [.int .i64 1] rfl rfl (one_cell wr _ _) (one_one _ rfl) HML.out HMB.out (le_alloc hs0 _) ?_)
          intro v1 w1 h1 h2 h3
          have HB1 := Lib.hid (below_app HBL.out _ _ _ _ _ HOWN.out h2)
          have HO1 := Lib.hid (HNEXT.out _ _ h1)
          clear h1 h2 h3 hs0
          go_wp2_with fail
          go_roundw
          case rel => exact ⟨j + 1, by have := HGO.out; omega, by go_num, by rw [HC.out]; rfl, HO1.out, HB1.out⟩
          case measure => simp [intOf]; have := HGO.out; have := HN.out.2.2; have := HM.out.2.2; omega
end Go.Proofs.Ytkfacnegfkgcgaa
