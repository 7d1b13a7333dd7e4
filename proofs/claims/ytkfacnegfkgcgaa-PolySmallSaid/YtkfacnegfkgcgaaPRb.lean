/-
  mailsackref06.times: the walk.
-/
import Derived.Test.YtkfacnegfkgcgaaPRa
namespace Go.Proofs.Ytkfacnegfkgcgaa
open Go.RowKit MS

/-- A row of digits of the call's own. -/
structure ETt (g N : Nat) (w0 : World) (l : List Nat) (w : World) : Prop where
  own : w.ownsRow w0.heap.size 3 1 (.slice (some ⟨g, 0, none⟩) N N) N (evs l)
  bel : Below w0.heap.size w0 w
theorem ETt.drewN {g N : Nat} {w0 w : World} {l : List Nat} (h : ETt g N w0 l w) (k : Nat) : ETt g N w0 l (w.drewN k) := ⟨h.own, below_drewN h.bel k⟩
theorem ETt.cell {g N : Nat} {w0 w : World} {l : List Nat} (h : ETt g N w0 l w) (j x : Nat) (hj : j < N) (hx : l[j]? = some x) : w.cell? ⟨g, j, none⟩ = some (.int .i64 (x : Int)) := by
  rw [h.own.cellAt j (by omega), evs, List.getElem?_map, hx]
  rfl
theorem ETt.free {g N : Nat} {w0 w : World} {l : List Nat} (h : ETt g N w0 l w) (j : Nat) : w.frozen? ⟨g, j, none⟩ = false := h.own.frozenAt j
theorem ETt.put {g N : Nat} {w0 w : World} {l : List Nat} (h : ETt g N w0 l w) (j x : Nat) (v : Value) (hv : v = .int .i64 (x : Int)) : ETt g N w0 (l.set j x) (w.setCell ⟨g, j, none⟩ v) := by
  subst hv
  refine ⟨?_, h.bel.setCell ((own_cap h.own).2.2.1) _⟩
  have := (h.own.stored j (.int .i64 (x : Int))).1
  rwa [show (evs l).set j (.int .i64 (x : Int)) = evs (l.set j x) by simp [evs, List.map_set]] at this

theorem made_zerosE (N : Nat) : (madeCells #[.int .i64 0] N).toList = evs (dgn 256 N 0) := by
  apply List.ext_getElem?
  intro j
  rw [dg_zero, evs, List.getElem?_map, List.getElem?_replicate]
  by_cases h : j < N
  · simp [madeCells, h, Nat.mod_one]
  · simp [madeCells, h]
theorem natmodE (S : Nat) : Value.int .i64 ((S : Int) % 256) = .int .i64 ((S % 256 : Nat) : Int) := rfl

set_option maxRecDepth 1000000 in
set_option maxHeartbeats 2000000 in
theorem ptimes_any (n m u v : Nat) (va vb : Value) (ba bb : Nat) (w : World) (ha : ES w ba va n u) (hb : ES w bb vb m v) :
    Calls Try.prog 46 #[va, vb] w fun e w' => Below w.heap.size w w' ∧ ∃ r, e = .returned r ∧ w'.ownsRow w.heap.size 3 1 r (n + m) (evs (dgn 256 (n + m) (u * v))) := by
  obtain ⟨i0, hi, hz0, hz1, hz2⟩ : ∃ i, Try.prog.info? 3 = some i ∧ i.zero = some (.int .i64 0) ∧ i.size = 1 ∧ i.bytes = 8 := ⟨_, rfl, rfl, rfl, rfl⟩
  obtain ⟨ga, ca, rfl, -, -⟩ := ha.form
  obtain ⟨gb, cb, rfl, -, -⟩ := hb.form
  have HA := Lib.hid ha.cells
  have HB := Lib.hid hb.cells
  have HN := Lib.hid ha.2
  have HM := Lib.hid hb.2
  have hn1 : (n : Int) ≤ 100 := by have := HN.out.2.2; omega
  have hm1 : (m : Int) ≤ 100 := by have := HM.out.2.2; omega
  have hn0 : (0 : Int) ≤ n := by omega
  have hm0 : (0 : Int) ≤ m := by omega
  have hy2 : i0.bytes * (n + m) ≤ 281474976710656 := by rw [hz2]; omega
  have hy3 : n + m ≤ maxLen := by unfold maxLen; omega
  clear ha hb
  go_enter Try.func46, Try.ntmps46
  go_wp2_with (at_make; refine wpList_make_full w rfl (.tmp 14) (.tmp 14) 67 rfl w.heap.size 3 i0 (.int .i64 0) 1 Try.underlying67 hi hz0 hz1 .i64 .i64 ((n : Int) + (m : Int)) ((n : Int) + (m : Int)) (n + m) rfl rfl (Int.natCast_add n m).symm (Int.natCast_add n m).symm hy2 hy3 (Nat.le_refl _) ?_)
  intro w1 h1 h2
  rw [made_zerosE] at h1
  have T0 := Lib.hid (show ETt w.heap.size (n + m) w (dgn 256 (n + m) (u % 256 ^ 0 * v)) w1 from ⟨by rw [Nat.pow_zero, Nat.mod_one, Nat.zero_mul]; exact h1, (Below.refl w.heap.size w).grown h2 (Nat.le_refl _) (fun k hk => by cases hk)⟩)
  have HNM := Lib.hid (show ∃ N, N = n + m from ⟨_, rfl⟩)
  obtain ⟨N, hNM⟩ := HNM.out
  rw [← hNM] at T0
  rw [← hNM]
  have HG := Lib.hid hNM
  generalize hg : w.heap.size = g at T0 ⊢
  have HGG := Lib.hid hg
  clear h1 h2 hy2 hy3 HNM hNM hg
  have nN : (N : Int) ≤ 200 := by have := HG.out; omega
  go_wp2_with fail
  go_loopw [6] (fun i wr => ∃ j : Nat, j ≤ n ∧ i = .int .i64 j ∧ ETt g N w (dgn 256 N (u % 256 ^ j * v)) wr) (fun i _ => 300 - (intOf i).toNat)
  case atStart => exact ⟨0, by omega, rfl, T0.out⟩
  case round =>
    obtain ⟨j, hj, rfl, hr⟩ := hrel
    have R1 := Lib.hid hr
    have HJ := Lib.hid hj
    clear hr hj T0
    by_cases hlt : j < n
    · have j1 : (j : Int) < n := by omega
      have j0 : (0 : Int) ≤ j := by omega
      have HLT := Lib.hid hlt
      have hx := dig_lt 256 (by decide) u j
      have HX := Lib.hid (fun wr h => HA.out wr h j hlt)
      have hS0 := trow_zero 256 N u v j (by have := HG.out; omega)
      have HC0 := Lib.hid (tsum_c0 256 u v j (by decide))
      have R2 := R1.out
      rw [← hS0] at R2
      have R3 := Lib.hid R2
      clear R1 R2 hS0 hlt
      go_wp2_with fail
      obtain ⟨wo, rfl⟩ : ∃ wo : World, wo = wr := ⟨_, rfl⟩
      go_loopw [7, 8] (fun c i wr => ∃ k : Nat, k ≤ m ∧ i = .int .i64 k ∧ c = .int .i64 ((tsum 256 u v j k / 256 ^ (j + k) : Nat) : Int) ∧ ETt g N w (trow 256 N u v j k) wr) (fun _ i _ => 300 - (intOf i).toNat)
      case atStart => exact ⟨0, by omega, rfl, by rw [HC0.out]; rfl, R3.out⟩
      case round =>
        obtain ⟨k, hk, rfl, rfl, hr⟩ := hrel
        have R4 := Lib.hid hr
        have HK := Lib.hid hk
        have hc := tsum_c_lt 256 u v j k (by decide)
        have hL := trow_get 256 N u v j k (j + k) (Nat.le_refl _) (by have := HG.out; have := HLT.out; have := HM.out.2.1; omega)
        clear hr hk R3
        by_cases hlt : k < m
        · have k1 : (k : Int) < m := by omega
          have k0 : (0 : Int) ≤ k := by omega
          have HLK := Lib.hid hlt
          have hpN : j + k < N := by have := HG.out; have := HLT.out; omega
          have hy := dig_lt 256 (by decide) v k
          have cx := HX.out wr R4.out.bel
          have cy := HB.out wr R4.out.bel k hlt
          have hd := tsum_digit 256 u v j k (by decide)
          have hcc := tsum_carry 256 u v j k (by decide)
          have hl := dig_lt 256 (by decide) (u % 256 ^ j * v) (j + k)
          have hset := trow_set 256 N u v j k hpN
          rw [hd] at hset
          have cl := R4.out.cell (j + k) _ hpN hL
          have fl := R4.out.free (j + k)
          have HST := Lib.hid (show ∀ kk : Nat, ∀ x : Value, x = .int .i64 (((tsum 256 u v j k / 256 ^ (j + k) + (u % 256 ^ j * v / 256 ^ (j + k) % 256 + u / 256 ^ j % 256 * (v / 256 ^ k % 256))) % 256 : Nat) : Int) → ETt g N w (trow 256 N u v j (k + 1)) ((wr.drewN kk).setCell ⟨g, j + k, none⟩ x) from fun kk x hx => by
            rw [← hset]
            exact (R4.out.drewN kk).put (j + k) _ x hx)
          have HCC := Lib.hid hcc
          clear hcc hset hd hL HX R4
          generalize u / 256 ^ j % 256 = x at *
          generalize v / 256 ^ k % 256 = y at *
          generalize tsum 256 u v j k / 256 ^ (j + k) = c at *
          generalize u % 256 ^ j * v / 256 ^ (j + k) % 256 = l at *
          have hP : x * y ≤ 65535 * 65535 := Nat.mul_le_mul (by omega) (by omega)
          obtain ⟨P, hPP⟩ : ∃ P : Nat, P = x * y := ⟨_, rfl⟩
          rw [← hPP] at hP HST HCC
          have qP : (x : Int) * (y : Int) = (P : Int) := by rw [hPP]; exact (Int.natCast_mul x y).symm
          obtain ⟨S, hSS⟩ : ∃ S : Nat, S = c + (l + P) := ⟨_, rfl⟩
          rw [← hSS] at HST HCC
          have qS : (l : Int) + (P : Int) + (c : Int) = (S : Int) := by omega
          have qS2 : (l : Int) + (P : Int) ≤ 4294967296 := by omega
          have S1 : (S : Int) ≤ 4295098368 := by omega
          have S0 : (0 : Int) ≤ (S : Int) := by omega
          have P1 : (P : Int) ≤ 4294836225 := by omega
          have P0 : (0 : Int) ≤ (P : Int) := by omega
          have l1 : (l : Int) < 256 := by omega
          have l0 : (0 : Int) ≤ (l : Int) := by omega
          obtain ⟨p, hp⟩ : ∃ p : Nat, p = j + k := ⟨_, rfl⟩
          rw [← hp] at cl fl HST
          have qp : (j : Int) + (k : Int) = (p : Int) := by omega
          have p1 : (p : Int) < N := by omega
          have p0 : (0 : Int) ≤ (p : Int) := by omega
          have kb : (k : Int) ≤ 100 := by omega
          clear hSS hPP hP hp hpN hx hy hc hl hlt
          go_wp2_with fail
          go_quiet (fail)
          have HS2 := Lib.hid (HST.out nq _ (natmodE S))
          have f2 : (wr.drewN nq).frozen? ⟨g, p, none⟩ = false := fl
          have c2 : (wr.drewN nq).cell? ⟨g, p, none⟩ = some (.int .i64 (l : Int)) := cl
          clear fl cl cx cy HST
          generalize wr.drewN nq = wq at *
          go_wp2_with fail
          go_roundw
          case rel => exact ⟨k + 1, by have := HLK.out; omega, by go_num, by rw [HCC.out]; go_num, HS2.out⟩
          case measure => simp [intOf]; have := HLK.out; have := HM.out.2.2; omega
        · have k1 : ¬ (k : Int) < m := by omega
          have hkm : k = m := by have := HK.out; omega
          subst hkm
          have hlast := trow_last 256 N u v j k (by decide) HM.out.1 (by have := HG.out; have := HLT.out; omega)
          have hpN : j + k < N := by have := HG.out; have := HLT.out; omega
          have hl := dig_lt 256 (by decide) (u % 256 ^ j * v) (j + k)
          have cl := R4.out.cell (j + k) _ hpN hL
          have fl := R4.out.free (j + k)
          have HST := Lib.hid (show ∀ x : Value, x = .int .i64 (((u % 256 ^ j * v / 256 ^ (j + k) % 256 + tsum 256 u v j k / 256 ^ (j + k) : Nat)) : Int) → ETt g N w (dgn 256 N (u % 256 ^ (j + 1) * v)) (wr.setCell ⟨g, j + k, none⟩ x) from fun x hx => by
            rw [← hlast]
            exact R4.out.put (j + k) _ x hx)
          clear hlast hL R4
          generalize tsum 256 u v j k / 256 ^ (j + k) = c at *
          generalize u % 256 ^ j * v / 256 ^ (j + k) % 256 = l at *
          have c1 : (c : Int) < 256 := by omega
          have c0 : (0 : Int) ≤ (c : Int) := by omega
          have l1 : (l : Int) < 256 := by omega
          have l0 : (0 : Int) ≤ (l : Int) := by omega
          obtain ⟨p, hp⟩ : ∃ p : Nat, p = j + k := ⟨_, rfl⟩
          rw [← hp] at cl fl HST
          have qp : (j : Int) + (k : Int) = (p : Int) := by omega
          have p1 : (p : Int) < N := by omega
          have p0 : (0 : Int) ≤ (p : Int) := by omega
          have kb : (k : Int) ≤ 100 := by omega
          have HS2 := Lib.hid (HST.out (.int .i64 ((l : Int) + (c : Int))) (by rw [Int.natCast_add]))
          clear hp hpN hc hl hlt HST hx HX
          go_wp2_with fail
          go_roundw
          case rel => exact ⟨j + 1, by have := HLT.out; omega, by go_num, HS2.out⟩
          case measure => simp [intOf]; have := HLT.out; have := HN.out.2.2; omega
    · have j1 : ¬ (j : Int) < n := by omega
      have hjn : j = n := by have := HJ.out; omega
      subst hjn
      have R9 := R1.out
      rw [Nat.mod_eq_of_lt HN.out.1] at R9
      have HB9 := Lib.hid R9.bel
      have HO9 := Lib.hid R9.own
      clear R9 R1 hlt
      go_wp2_with fail
      go_ret
      exact ⟨HB9.out, _, rfl, by rw [← HG.out]; exact HO9.out⟩
end Go.Proofs.Ytkfacnegfkgcgaa
