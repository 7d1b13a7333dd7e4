/-
  mailsackref06.reduce: the walk.
-/
import Derived.Test.YtkfacnegfkgcgaaPRd
import Derived.Deep.DeepCutAuto
namespace Go.Proofs.Ytkfacnegfkgcgaa
open Go.RowKit MS

def lenOfE : Value → Nat
  | .slice _ n _ => n
  | _ => 0
/-- What the outer loop keeps. -/
structure POt (w0 : World) (u n' u' : Nat) (v : Value) (w : World) : Prop where
  dig : ES w 0 v n' u'
  bd : n' ≤ 60
  eq : u' % P130 = u % P130
  bel : Below w0.heap.size w0 w

set_option maxRecDepth 1000000 in
set_option maxHeartbeats 4000000 in
theorem preduce_any (n u : Nat) (va : Value) (ba : Nat) (w : World) (ha : ES w ba va n u) (hn60 : n ≤ 60) :
    Calls Try.prog 45 #[va] w fun e w' => Below w.heap.size w w' ∧ ∃ r, e = .returned r ∧ ES w' 0 r 17 (u % P130) := by
  obtain ⟨i0, hi, hz0, hz1, hz2⟩ : ∃ i, Try.prog.info? 3 = some i ∧ i.zero = some (.int .i64 0) ∧ i.size = 1 ∧ i.bytes = 8 := ⟨_, rfl, rfl, rfl, rfl⟩
  have H0 := Lib.hid (show POt w u n u va w from ⟨ha.base (Nat.zero_le _), hn60, rfl, Below.refl _ _⟩)
  clear ha hn60
  go_enter Try.func45, Try.ntmps45
  go_wp2_with fail
  go_loopw [0] (fun v wr => ∃ n' u' : Nat, POt w u n' u' v wr) (fun v wr => numE wr v)
  case atStart => exact ⟨n, u, H0.out⟩
  case round =>
    obtain ⟨n', u', hd⟩ := hrel
    have HNUM := Lib.hid (show numE wr _ = u' from hd.dig.num)
    obtain ⟨ga, ca, rfl, -, hgw⟩ := hd.dig.form
    have HD := Lib.hid hd
    have HA := Lib.hid hd.dig.cells
    have HU := Lib.hid hd.dig.2.1
    have HN0 := Lib.hid hd.dig.2.2.1
    have HN60 := Lib.hid hd.bd
    have n1 : (n' : Int) ≤ 60 := by have := HN60.out; omega
    clear hd H0
    have R0 := Lib.hid (PRt.start wr u')
    go_wp2_with fail
    obtain ⟨wo, rfl⟩ : ∃ wo : World, wo = wr := ⟨_, rfl⟩
    go_loopw [3, 4, 5, 6] (fun x y m i wr => ∃ j : Nat, j ≤ n' ∧ i = .int .i64 j ∧ m = .bool (anyH u' (j - 16)) ∧ PRt wo u' (min j 17) (j - 16) x y wr) (fun _ _ _ i _ => 300 - (intOf i).toNat)
    case atStart => exact ⟨0, by omega, rfl, by rw [anyH_zero], R0.out⟩
    case round =>
      obtain ⟨j, hj, rfl, rfl, hr⟩ := hrel
      have R1 := Lib.hid hr
      have HJ := Lib.hid hj
      clear hr hj R0
      by_cases hlt : j < n'
      · have j1 : (j : Int) < n' := by omega
        have j0 : (0 : Int) ≤ j := by omega
        have HLT := Lib.hid hlt
        have ca0 := HA.out wr R1.out.bel j hlt
        have hx := dig_lt 256 (by decide) u' j
        by_cases h16 : j < 16
        · have k1 : (j : Int) < 16 := by omega
          have R2 := R1.out
          rw [Nat.min_eq_left (by omega), show j - 16 = 0 by omega] at R2
          have R3 := Lib.hid R2
          have HAPP := Lib.hid (low_app u' j h16)
          have H16 := Lib.hid h16
          have HAL := Lib.hid (R2.low.alloc (.cells #[.int .i64 ((u' / 256 ^ j % 256 : Nat) : Int)] 3 (0, 0)))
          have HML := Lib.hid (show j + 1 ≤ maxLen by unfold maxLen; omega)
          have HMB := Lib.hid (show (j + 1) * 8 ≤ 140737488355328 by omega)
          have hs0 : _ ≤ wr.heap.size := R2.bel.size
          clear R1 R2 h16 hlt
          generalize u' / 256 ^ j % 256 = d at *
          go_wp2_with (at_builtin; refine wpList_append_lies _ rfl (.tmp 17) (.tmp 22) 67 rfl _ 3 i0 (.int .i64 0) 1 8 Try.underlying67 hi hz0 hz1 hz2 rfl (by decide) _ _ _ rfl HAL.out ⟨wr.heap.size, 0, none⟩ 1 1 [.int .i64 (d : Int)] rfl rfl (one_cell wr _ _) (one_one _ rfl) (by decide) HML.out HMB.out (le_alloc hs0 _) (wr.heap.size + 1) (World.size_alloc _ _) ?_)
          intro g9 c9 w9 h1 h2 h3 h4
          have HR9 := Lib.hid (R3.out.appLow (k1' := j + 1) _ (World.size_alloc _ _) (by rw [HAPP.out, evs_app]; exact h1) h2 h3)
          clear h1 h2 h3 h4 ca0 hx hs0
          go_wp2_with fail
          go_roundw
          case rel => exact ⟨j + 1, HLT.out, by go_num, by rw [show j + 1 - 16 = j - 16 by have := H16.out; omega], by rw [Nat.min_eq_left (by have := H16.out; omega), show j + 1 - 16 = 0 by have := H16.out; omega]; exact HR9.out⟩
          case measure => simp [intOf]; have := HLT.out; have := HN60.out; omega
        · have k1 : ¬ (j : Int) < 16 := by omega
          have HG := Lib.hid (high_getE u' n' j HU.out (by omega))
          have HAPPH := Lib.hid (high_appE u' j (by omega))
          have HANY := Lib.hid (anyH_succ u' (j - 16))
          have HYL := Lib.hid (dig_lt 256 (by decide) u' (j + 1))
          have H16 := Lib.hid (show 16 ≤ j by omega)
          by_cases h17 : j = 16
          case' pos =>
            have k2 : ((j : Int) == 16) = true := by simp; omega
            have R2 := R1.out
            rw [Nat.min_eq_left (by omega), h17, show 16 - 16 = 0 from rfl] at R2
            have R3 := Lib.hid R2
            have HAPP := Lib.hid (show dgn 256 17 (lo130 u') = dgn 256 16 (lo130 u') ++ [u' / 256 ^ j % 256 % 4] by rw [h17]; exact low_app16 u')
            have H17 := Lib.hid h17
            have HML := Lib.hid (show 16 + 1 ≤ maxLen by unfold maxLen; decide)
            have HMB := Lib.hid (show (16 + 1) * 8 ≤ 140737488355328 by decide)
            have hs0 : _ ≤ wr.heap.size := R2.bel.size
            clear R1 R2 h16 h17 hlt
            obtain ⟨d, hd⟩ : ∃ d, d = u' / 256 ^ j % 256 := ⟨_, rfl⟩
            rw [← hd] at ca0 hx HAPP
            have HXE := Lib.hid hd
            clear hd
            have HAL := Lib.hid (R3.out.low.alloc (.cells #[.int .i64 ((d : Int) % 4)] 3 (0, 0)))
            go_upto_region 10 with (at_builtin; refine wpList_append_lies _ rfl (.tmp 26) (.tmp 32) 67 rfl _ 3 i0 (.int .i64 0) 1 8 Try.underlying67 hi hz0 hz1 hz2 rfl (by decide) _ _ _ rfl HAL.out ⟨wr.heap.size, 0, none⟩ 1 1 [.int .i64 ((d : Int) % 4)] rfl rfl (one_cell wr _ _) (one_one _ rfl) (by decide) HML.out HMB.out (le_alloc hs0 _) (wr.heap.size + 1) (World.size_alloc _ _) ?_)
            intro g9 c9 w9 h1 h2 h3 h4
            have HR0 := R3.out.appLow (k1' := 17) _ (World.size_alloc _ _) (by rw [HAPP.out, evs_app]; exact h1) h2 h3
            generalize Value.slice (some ⟨g9, 0, none⟩) (16 + 1) c9 = xl at HR0 ⊢
            have HR := Lib.hid (show PRt wo u' 17 (j - 16) xl _ w9 from by rw [H17.out]; exact HR0)
            clear h1 h2 h3 h4 ca0 HR0 hs0 HAL HML HMB R3
            go_upto_region 10 with fail
            obtain ⟨wq, rfl⟩ : ∃ wq : World, wq = w9 := ⟨_, rfl⟩
          case' neg =>
            have k2 : ((j : Int) == 16) = false := by simp; omega
            have HR0 := R1.out
            rw [Nat.min_eq_right (by omega)] at HR0
            have HR := Lib.hid HR0
            clear R1 HR0 h16 h17 hlt
            obtain ⟨d, hd⟩ : ∃ d, d = u' / 256 ^ j % 256 := ⟨_, rfl⟩
            rw [← hd] at ca0 hx
            have HXE := Lib.hid hd
            clear hd ca0
            go_upto_region 10 with fail
            obtain ⟨wq, rfl⟩ : ∃ wq : World, wq = wr := ⟨_, rfl⟩
          all_goals
            have HCA := Lib.hid (HA.out wq HR.out.bel)
            have ca0 := HCA.out j HLT.out
            rw [← HXE.out] at ca0
            have hg := HG.out
            rw [← HXE.out] at hg
            have hyl := HYL.out
            have HML := Lib.hid (show j - 16 + 1 ≤ maxLen by have := HLT.out; have := HN60.out; unfold maxLen; omega)
            have HMB := Lib.hid (show (j - 16 + 1) * 8 ≤ 140737488355328 by have := HLT.out; have := HN60.out; omega)
            by_cases hj2 : j + 1 < n'
            case' pos =>
              have m1 : (j : Int) + 1 < n' := by omega
              have m0 : (0 : Int) ≤ (j : Int) + 1 := by omega
              have ca1 := HCA.out (j + 1) hj2
              rw [if_pos hj2] at hg
              generalize u' / 256 ^ (j + 1) % 256 = y at *
              have y1 : (y : Int) < 256 := by omega
              have y0 : (0 : Int) ≤ (y : Int) := by omega
              obtain ⟨S, hS⟩ : ∃ S : Nat, S = d / 4 + y % 4 * 64 := ⟨_, rfl⟩
              have qS : (d : Int) / 4 + (y : Int) % 4 * 64 = (S : Int) := by omega
            case' neg =>
              have m1 : ¬ (j : Int) + 1 < n' := by omega
              have m0 : (0 : Int) ≤ (j : Int) + 1 := by omega
              have ca1 : True := trivial
              rw [if_neg hj2] at hg
              have y1 : True := trivial
              have y0 : True := trivial
              obtain ⟨S, hS⟩ : ∃ S : Nat, S = d / 4 + 0 := ⟨_, rfl⟩
              have qS : (d : Int) / 4 = (S : Int) := by omega
            all_goals
              rw [← hS] at hg
              have S1 : (S : Int) < 256 := by omega
              have S0 : (0 : Int) ≤ (S : Int) := by omega
              have x1 : (d : Int) < 256 := by omega
              have x0 : (0 : Int) ≤ (d : Int) := by omega
              have HAP2 := HAPPH.out
              rw [← hg] at HAP2
              have HAN2 := HANY.out
              rw [← hg] at HAN2
              have HNEXT := Lib.hid (show ∀ (v : Value) (w1 : World), w1.ownsRow wo.heap.size 3 1 v (j - 16 + 1) (evs (dgn 256 (j - 16) (hi130 u')) ++ [.int .i64 (S : Int)]) → w1.ownsRow wo.heap.size 3 1 v (j + 1 - 16) (evs (dgn 256 (j + 1 - 16) (hi130 u'))) from by
                intro v w1 h
                rw [HAP2, evs_app, show j + 1 - 16 = j - 16 + 1 by have := H16.out; omega]
                exact h)
              have HAN3 := Lib.hid (show anyH u' (j + 1 - 16) = (anyH u' (j - 16) || decide (0 < S)) by rw [← HAN2, show j + 1 - 16 = j - 16 + 1 by have := H16.out; omega])
              have HAL := Lib.hid (HR.out.high.alloc (.cells #[.int .i64 (S : Int)] 3 (0, 0)))
              have hs0 : _ ≤ wq.heap.size := HR.out.bel.size
              clear hS hg HAP2 HAPPH HG HYL hyl hx HCA hj2 k2 HAN2 HANY
              go_upto_region 13 with fail
              clear ca0 ca1 x1 x0 y1 y0 qS m1 m0 k1
              go_wp2_with (at_builtin; refine wpList_append_lies _ rfl (.tmp 53) (.tmp 55) 67 rfl _ 3 i0 (.int .i64 0) 1 8 Try.underlying67 hi hz0 hz1 hz2 rfl (by decide) _ _ _ rfl HAL.out ⟨wq.heap.size, 0, none⟩ 1 1 [.int .i64 (S : Int)] rfl rfl (one_cell wq _ _) (one_one _ rfl) (by decide) HML.out HMB.out (le_alloc hs0 _) (wq.heap.size + 1) (World.size_alloc _ _) ?_)
              intro g8 c8 w8 h1 h2 h3 h4
              have HR8 := Lib.hid (HR.out.appHigh (k2' := j + 1 - 16) _ (World.size_alloc _ _) (HNEXT.out _ _ h1) h2 h3)
              clear h1 h2 h3 h4 hs0
              generalize Value.slice (some ⟨g8, 0, none⟩) (j - 16 + 1) c8 = yl at HR8 ⊢
              obtain ⟨mo, hmo⟩ : ∃ b, anyH u' (j - 16) = b := ⟨_, rfl⟩
              rw [hmo] at HAN3 ⊢
              clear hmo
              cases mo
              · by_cases hS : 0 < S
                case' pos => have s1 : (S : Int) > 0 := by omega
                case' neg => have s1 : ¬ (S : Int) > 0 := by omega
                all_goals
                  have HD9 := Lib.hid hS
                  clear hS
                  go_wp2_with fail
                  go_roundw
                  case rel => exact ⟨j + 1, HLT.out, by go_num, by rw [HAN3.out]; simp [HD9.out], by rw [Nat.min_eq_right (by have := H16.out; omega)]; exact HR8.out⟩
                  case measure => simp [intOf]; have := HLT.out; have := HN60.out; omega
              · go_wp2_with fail
                go_roundw
                case rel => exact ⟨j + 1, HLT.out, by go_num, by rw [HAN3.out]; rfl, by rw [Nat.min_eq_right (by have := H16.out; omega)]; exact HR8.out⟩
                case measure => simp [intOf]; have := HLT.out; have := HN60.out; omega
      · have j1 : ¬ (j : Int) < n' := by omega
        have hjn : j = n' := by have := HJ.out; omega
        have R2 := R1.out
        rw [hjn] at R2
        have HEND := Lib.hid (show anyH u' (j - 16) = decide (hi130 u' ≠ 0) from by
          refine anyH_end ?_
          rw [hjn]
          rcases Nat.lt_or_ge n' 16 with h | h
          · rw [hi_small HU.out (by omega)]; exact Nat.pow_pos (by decide)
          · exact hi_ltE HU.out h)
        have BW := Lib.hid (HD.out.bel.trans (R2.bel.mono HD.out.bel.size))
        rw [HEND.out]
        by_cases hz : hi130 u' = 0
        · rw [decide_eq_false (by simpa using hz)]
          have HSM := Lib.hid (fold_sameE hz)
          have HLT := Lib.hid (show u' < 1361129467683753853853498429727072845824 by rw [← HSM.out]; exact lo_ltE u')
          have HK0 := Lib.hid (show 1 ≤ min n' 17 ∧ min n' 17 ≤ 17 ∧ u' < 256 ^ (min n' 17) from by
            refine ⟨by have := HN0.out; omega, by omega, ?_⟩
            rcases Nat.le_total n' 17 with h | h
            · rw [Nat.min_eq_left h]; exact HU.out
            · rw [Nat.min_eq_right h]; exact Nat.lt_trans HLT.out (by decide))
          have hlow := R2.low
          rw [HSM.out] at hlow
          have HLOW := Lib.hid hlow
          have BW2 := Lib.hid R2.bel
          have HMO := Lib.hid HD.out.eq
          clear hlow R2 hz hjn hlt HEND R1
          go_wp2_with fail
          obtain ⟨w5, rfl⟩ : ∃ w5 : World, w5 = wr := ⟨_, rfl⟩
          go_loopw [0] (fun v wr => ∃ k : Nat, (1 ≤ k ∧ k ≤ 17 ∧ u' < 256 ^ k) ∧ wr.ownsRow wo.heap.size 3 1 v k (evs (dgn 256 k u')) ∧ Below wo.heap.size wo wr) (fun v _ => 17 - lenOfE v)
          case atStart => exact ⟨min n' 17, HK0.out, HLOW.out, BW2.out⟩
          case round =>
            obtain ⟨k, hk, ho, hb⟩ := hrel
            obtain ⟨g1, cp, rfl, -, -⟩ := ho.form (by omega)
            have HO := Lib.hid ho
            have HB := Lib.hid hb
            have HK := Lib.hid hk
            have hs0 : _ ≤ wr.heap.size := hb.size
            have kb : (k : Int) ≤ 17 := by omega
            clear ho hb hk HLOW HK0 BW2 BW
            by_cases hlt : k < 17
            · have m1 : (k : Int) < 17 := by omega
              have HLT2 := Lib.hid hlt
              have HAL := Lib.hid (HO.out.alloc (.cells #[.int .i64 0] 3 (0, 0)))
              have HML := Lib.hid (show k + 1 ≤ maxLen by unfold maxLen; omega)
              have HMB := Lib.hid (show (k + 1) * 8 ≤ 140737488355328 by omega)
              clear hlt
              go_wp2_with (at_builtin; refine wpList_append_lies _ rfl (.tmp 73) (.tmp 74) 67 rfl _ 3 i0 (.int .i64 0) 1 8 Try.underlying67 hi hz0 hz1 hz2 rfl (by decide) _ _ _ rfl HAL.out ⟨wr.heap.size, 0, none⟩ 1 1 [.int .i64 (0)] rfl rfl (one_cell wr _ _) (one_one _ rfl) (by decide) HML.out HMB.out (le_alloc hs0 _) (wr.heap.size + 1) (World.size_alloc _ _) ?_)
              intro g9 c9 w9 h1 h2 h3 h4
              have HB9 := Lib.hid (below_app HB.out _ _ _ _ _ HO.out h2)
              have HO9 := Lib.hid (show w9.ownsRow wo.heap.size 3 1 _ (k + 1) (evs (dgn 256 (k + 1) u')) from by
                rw [dg_succ, dig_zero HK.out.2.2 (by decide) (Nat.le_refl k), evs_app]; exact h1)
              clear h1 h2 h3 h4 hs0
              go_wp2_with fail
              go_roundw
              case rel => exact ⟨k + 1, ⟨by omega, by have := HLT2.out; omega, Nat.lt_of_lt_of_le HK.out.2.2 (Nat.pow_le_pow_right (by decide) (by omega))⟩, HO9.out, HB9.out⟩
              case measure => show 17 - (k + 1) < 17 - k; have := HLT2.out; omega
            · have m1 : ¬ (k : Int) < 17 := by omega
              have hk17 : k = 17 := by have := HK.out; omega
              subst hk17
              have DA := Lib.hid (show ES (wr.alloc (.cells #[.int .i64 5] 3 (0, 0))) wo.heap.size (.slice (some ⟨g1, 0, none⟩) 17 cp) 17 u' from (show ES wr _ _ _ _ from ⟨HO.out, HK.out.2.2, by decide, by decide⟩).on ((Below.refl _ _).alloc (Nat.le_refl _) _))
              have D5 := Lib.hid (show ES (wr.alloc (.cells #[.int .i64 5] 3 (0, 0))) wr.heap.size (.slice (some ⟨wr.heap.size, 0, none⟩) 1 1) 1 5 from ⟨World.ownsRow_lit (base := wr.heap.size) (e := 3) (size := 1) wr #[.int .i64 5] 1 (Nat.le_refl _) (by decide) rfl, by decide, by decide, by decide⟩)
              have HCAP := Lib.hid (own_cap HO.out)
              have BA := Lib.hid (show Below w.heap.size w (wr.alloc (.cells #[.int .i64 5] 3 (0, 0))) from below_alloc (HD.out.bel.trans (HB.out.mono HD.out.bel.size)) _)
              have F5 := Lib.hid (five_more HLT.out)
              clear hs0 hlt
              go_wp2_with fail
              refine (padd_any 17 1 u' 5 _ _ _ _ _ DA.out D5.out).mono ?_
              rintro e w7 ⟨hb7, r7, k2, rfl, p1, p2, p3, p4, ho7⟩
              have DA7 := Lib.hid (DA.out.on hb7)
              have B7 := Lib.hid (BA.out.trans (hb7.mono BA.out.size))
              obtain ⟨g2, c2, rfl, -, -⟩ := ho7.form (by omega)
              have HO7 := Lib.hid ho7
              have hc2 := own_cap ho7
              have cd : w7.cell? ⟨g2, 16, none⟩ = some (.int .i64 (((u' + 5) / 256 ^ 16 % 256 : Nat) : Int)) := by
                rw [ho7.cellAt 16 (by omega), evs, List.getElem?_map, dg_get _ _ _ _ (by omega)]
                rfl
              have fd := ho7.frozenAt 16
              have hx := dig_lt 256 (by decide) (u' + 5) 16
              have q1 : (k2 : Int) > 16 := by omega
              have q2 : (k2 : Int) ≤ 18 := by omega
              have q3 : (17 : Int) ≤ (c2 : Int) := by omega
              have q4 : (17 : Int) ≤ (cp : Int) := by have := HCAP.out.1; omega
              have HK2 := Lib.hid p1
              clear hb7 ho7 p1 p2 p3 p4 DA D5 BA hc2 HCAP
              obtain ⟨d, hd⟩ : ∃ d, d = (u' + 5) / 256 ^ 16 % 256 := ⟨_, rfl⟩
              rw [← hd] at cd hx
              have HDE := Lib.hid hd
              clear hd
              by_cases h3 : 3 < d
              · have z1 : (d : Int) > 3 := by omega
                have HP := (HO7.out.stored 16 (.int .i64 ((d : Int) - 4))).1
                have HT := own_takeE HP (m := 17) HK2.out
                have h3' : 3 < (u' + 5) / 256 ^ 16 % 256 := by rw [← HDE.out]; exact h3
                have e1 : ((evs (dgn 256 k2 (u' + 5))).set 16 (.int .i64 ((d : Int) - 4))).take 17 = evs (dgn 256 17 (u' % P130)) := by
                  rw [F5.out.2.2.1 (F5.out.2.1.1 h3'), ← dg_less h3' F5.out.1, List.take_set, evs_take, dgn_takeE _ _ _ _ HK2.out, ← HDE.out]
                  rw [show (d : Int) - 4 = ((d - 4 : Nat) : Int) by omega]
                  simp [evs, List.map_set]
                rw [e1] at HT
                have HRES := Lib.hid (show ES (w7.setCell ⟨g2, 16, none⟩ (.int .i64 ((d : Int) - 4))) 0 (.slice (some ⟨g2, 0, none⟩) 17 c2) 17 (u % P130) from by
                  rw [← HMO.out]
                  exact (show ES _ _ _ 17 (u' % P130) from ⟨HT, Nat.lt_trans (Nat.mod_lt _ (by decide)) (show P130 < 256 ^ 17 by decide), by decide, by decide⟩).base (Nat.zero_le _))
                have HBR := Lib.hid (show Below w.heap.size w (w7.setCell ⟨g2, 16, none⟩ (.int .i64 ((d : Int) - 4))) from B7.out.setCell (show w.heap.size ≤ g2 from Nat.le_trans (HD.out.bel.size) (by have := (own_cap HO7.out).2.2.1; rw [World.size_alloc] at this; have := HB.out.size; omega)) _)
                have d0 : (0 : Int) ≤ (d : Int) := by omega
                have d1 : (d : Int) < 256 := by omega
                clear HP HT h3' e1 h3 hx
                go_wp2_with fail
                go_ret
                exact ⟨HBR.out, _, rfl, HRES.out⟩
              · have z1 : ¬ (d : Int) > 3 := by omega
                have h3' : ¬ 3 < (u' + 5) / 256 ^ 16 % 256 := by rw [← HDE.out]; exact h3
                have HRES := Lib.hid (show ES w7 0 (.slice (some ⟨g1, 0, none⟩) 17 cp) 17 (u % P130) from by
                  rw [← HMO.out, F5.out.2.2.2 (Nat.lt_of_not_le fun h => h3' (F5.out.2.1.2 h))]
                  exact DA7.out.base (Nat.zero_le _))
                have d0 : (0 : Int) ≤ (d : Int) := by omega
                have d1 : (d : Int) < 256 := by omega
                clear h3' h3 hx fd
                go_wp2_with fail
                go_ret
                exact ⟨B7.out, _, rfl, HRES.out⟩
        · rw [decide_eq_true (by simpa using hz)]
          have H17 := Lib.hid (show 17 ≤ n' from Nat.lt_of_not_le fun h => hz (hi_small HU.out h))
          have HNZ := Lib.hid hz
          rw [Nat.min_eq_right H17.out] at R2
          obtain ⟨k0, hk0⟩ : ∃ k0, n' - 16 = k0 + 1 := ⟨n' - 17, by have := H17.out; omega⟩
          have HHI := Lib.hid (show hi130 u' < 256 ^ (k0 + 1) by rw [← hk0]; exact hi_ltE HU.out (by have := H17.out; omega))
          rw [hk0] at R2
          have HK0 := Lib.hid (show k0 + 1 ≤ 44 by have := HN60.out; omega)
          have DL0 := Lib.hid (show ES (wr.alloc (.cells #[.int .i64 5] 3 (0, 0))) wo.heap.size _ 17 (lo130 u') from (show ES wr _ _ _ _ from ⟨R2.low, lo_lt17 u', by decide, by decide⟩).on ((Below.refl _ _).alloc (Nat.le_refl _) _))
          have DH := Lib.hid (show ES (wr.alloc (.cells #[.int .i64 5] 3 (0, 0))) wo.heap.size _ (k0 + 1) (hi130 u') from (show ES wr _ _ _ _ from ⟨R2.high, HHI.out, by omega, by have := HK0.out; omega⟩).on ((Below.refl _ _).alloc (Nat.le_refl _) _))
          have D5 := Lib.hid (show ES (wr.alloc (.cells #[.int .i64 5] 3 (0, 0))) wr.heap.size (.slice (some ⟨wr.heap.size, 0, none⟩) 1 1) 1 5 from ⟨World.ownsRow_lit (base := wr.heap.size) (e := 3) (size := 1) wr #[.int .i64 5] 1 (Nat.le_refl _) (by decide) rfl, by decide, by decide, by decide⟩)
          have BA := Lib.hid (show Below w.heap.size w (wr.alloc (.cells #[.int .i64 5] 3 (0, 0))) from below_alloc BW.out _)
          clear hz hk0 R2 R1 hlt hjn HEND
          go_wp2_with fail
          refine (ptimes_any (k0 + 1) 1 (hi130 u') 5 _ _ _ _ _ DH.out D5.out).mono ?_
          rintro e w7 ⟨hb7, r7, rfl, ho7⟩
          have DT := Lib.hid (show ES w7 _ r7 (k0 + 1 + 1) (hi130 u' * 5) from ⟨ho7, prod_lt_pow HHI.out (by decide) (by decide), by omega, by have := HK0.out; omega⟩)
          have DL := Lib.hid (DL0.out.on hb7)
          have B7 := Lib.hid (BA.out.trans (hb7.mono BA.out.size))
          clear hb7 ho7 D5 DH DL0 BA
          go_wp2_with fail
          refine (padd_any 17 (k0 + 1 + 1) (lo130 u') (hi130 u' * 5) _ _ _ _ _ DL.out DT.out).mono ?_
          rintro e w8 ⟨hb8, r8, k2, rfl, p1, p2, p3, p4, ho8⟩
          have P8 := Lib.hid (show POt w u k2 (lo130 u' + hi130 u' * 5) r8 w8 from ⟨(show ES w8 _ r8 k2 _ from ⟨ho8, p4, by omega, by have := HK0.out; omega⟩).base (Nat.zero_le _), by have := HK0.out; omega, by rw [Nat.mul_comm, fold_modE]; exact HD.out.eq, B7.out.trans (hb8.mono B7.out.size)⟩)
          clear hb8 ho8 p1 p2 p3 p4 DT DL B7 HHI HK0
          go_wp2_with fail
          go_roundw
          case rel => exact ⟨_, _, P8.out⟩
          case measure => rw [HNUM.out, P8.out.dig.num]; have := fold_ltE HNZ.out; omega
end Go.Proofs.Ytkfacnegfkgcgaa
