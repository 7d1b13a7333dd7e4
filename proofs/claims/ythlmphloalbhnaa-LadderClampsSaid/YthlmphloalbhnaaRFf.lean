/-
  mailsackref03.Reduce: the walk.
-/
import Derived.Test.YthlmphloalbhnaaRFe
import Derived.Deep.DeepCutAuto
namespace Go.Proofs.Ythlmphloalbhnaa
open Go.RowKit MS

theorem DS.redM {w : World} {base n u : Nat} {v : Value} (h : DS w base v n u) : redM v w = 2 * u + if n > 16 then 1 else 0 := by rw [Go.Proofs.Ythlmphloalbhnaa.redM, h.num, h.len]
theorem DS.cut {w : World} {base g n cap u : Nat} (h : DS w base (.slice (some ⟨g, 0, none⟩) (n + 1) cap) (n + 1) u) (hn : 0 < n) (h0 : u / 65536 ^ n % 65536 = 0) : DS w base (.slice (some ⟨g, 0, none⟩) n cap) n u := by
  refine ⟨?_, lt_of_top h.2.1 h0, hn, by have := h.2.2.2; omega⟩
  have := own_take h.1 (m := n) (by omega)
  rwa [dvs_take, dgn_take _ _ _ _ (by omega)] at this
theorem low_start {w w1 : World} (u : Nat) (h1 : w1.ownsRow w.heap.size 3 1 (.slice (some ⟨w.heap.size, 0, none⟩) 16 16) 16 (madeCells #[.int .i64 0] 16).toList) (h2 : w.grownBy w1 none) : RSt w w.heap.size u 0 0 (.slice none 0 0) w1 := by
  refine ⟨⟨?_, (Below.refl w.heap.size w).grown h2 (Nat.le_refl _) (fun k hk => by cases hk)⟩, World.ownsRow_nil _ _ _ _⟩
  rw [lowL_zero, ← made_zeros]
  exact h1

set_option maxRecDepth 1000000 in
set_option maxHeartbeats 4000000 in
theorem rreduce_any (n u : Nat) (va : Value) (ba : Nat) (w : World) (ha : DS w ba va n u) (h16 : 16 ≤ n) :
    Calls Try.prog 42 #[va] w fun e w' => Below w.heap.size w w' ∧ ∃ r, e = .returned r ∧ DS w' 0 r 16 (u % Q') := by
  obtain ⟨i0, hi, hz0, hz1, hz2⟩ : ∃ i, Try.prog.info? 3 = some i ∧ i.zero = some (.int .i64 0) ∧ i.size = 1 ∧ i.bytes = 8 := ⟨_, rfl, rfl, rfl, rfl⟩
  have H0 := Lib.hid (show 16 ≤ n ∧ DS w 0 va n u ∧ u % Q' = u % Q' ∧ Below w.heap.size w w from ⟨h16, ha.base (Nat.zero_le _), rfl, Below.refl _ _⟩)
  clear ha h16
  go_enter Try.func42, Try.ntmps42
  go_wp2_with fail
  go_loopw [0] (fun v wr => ∃ n' u' : Nat, 16 ≤ n' ∧ DS wr 0 v n' u' ∧ u' % Q' = u % Q' ∧ Below w.heap.size w wr) (fun v wr => redM v wr)
  case atStart => exact ⟨n, u, H0.out.1, H0.out.2.1, rfl, Below.refl _ _⟩
  case round =>
    obtain ⟨n', u', h16, hd, hm, hb⟩ := hrel
    have HREDM := Lib.hid (show redM _ wr = 2 * u' + if n' > 16 then 1 else 0 by rw [redM, hd.num, hd.len])
    obtain ⟨ga, ca, rfl, -, hgw⟩ := hd.form
    have HD := Lib.hid hd
    have HA := Lib.hid hd.cells
    have HMO := Lib.hid hm
    have HB := Lib.hid hb
    have H16 := Lib.hid h16
    have HN100 := Lib.hid hd.2.2.2
    have HU := Lib.hid hd.2.1
    have c15 := hd.cell 15 (by omega)
    have ht := dig_lt 65536 (by decide) u' 15
    have HTOP := Lib.hid (show n' = 16 → ((32767 < u' / 65536 ^ 15 % 65536) ↔ hi255 u' ≠ 0) from fun e => hi_top (by rw [← e]; exact hd.2.1))
    generalize u' / 65536 ^ 15 % 65536 = t at *
    have n0 : (16 : Int) ≤ (n' : Int) := by omega
    have n1 : (n' : Int) ≤ 100 := by have := HN100.out; omega
    have hgaw := hgw
    clear hd hm hb hgw H0
    by_cases hgo : n' > 16 ∨ 32767 < t
    · have HGO := Lib.hid (show hi255 u' = 0 → n' > 16 from fun h => by
        rcases hgo with h1 | h1
        · exact h1
        · refine Nat.lt_of_le_of_ne H16.out fun e => ?_
          exact ((HTOP.out e.symm).1 h1) h)
      by_cases hn : n' > 16
      case' pos =>
        have q1 : (n' : Int) > 16 := by omega
        have q2 : True := trivial
        have q3 : True := trivial
      case' neg =>
        have q1 : ¬ (n' : Int) > 16 := by omega
        have q2 : ((n' : Int) == 16) = true := by simp; omega
        have q3 : (t : Int) > 32767 := by omega
      all_goals
        clear hgo hn HTOP
        go_wp2_with (at_make; refine wpList_make_full wr rfl (.const (.int .i64 16)) (.const (.int .i64 16)) 26 rfl wr.heap.size 3 i0 (.int .i64 0) 1 Try.underlying26 hi hz0 hz1 .i64 .i64 16 16 16 rfl rfl rfl rfl (by rw [hz2]; decide) (by decide) (Nat.le_refl _) ?_)
        intro w1 h1 h2
        have R0 := Lib.hid (low_start u' h1 h2)
        have HGA := Lib.hid hgaw
        clear h1 h2
        generalize hgl : wr.heap.size = gl at R0 ⊢
        have HGL := Lib.hid hgl
        clear hgl
        go_wp2_with fail
        obtain ⟨wo, rfl⟩ : ∃ wo : World, wo = wr := ⟨_, rfl⟩
        go_loopw [4, 5] (fun x i wr => ∃ j : Nat, j ≤ n' ∧ i = .int .i64 j ∧ RSt wo gl u' j (j - 15) x wr) (fun _ i _ => 300 - (intOf i).toNat)
        case atStart => exact ⟨0, by omega, rfl, R0.out⟩
        case round =>
          obtain ⟨j, hj, rfl, hr⟩ := hrel
          have R1 := Lib.hid hr
          have HJ := Lib.hid hj
          clear hr hj R0
          by_cases hlt : j < n'
          · have j1 : (j : Int) < n' := by omega
            have j0 : (0 : Int) ≤ j := by omega
            have HLT := Lib.hid hlt
            have ca0 := HA.out wr R1.out.low.bel j hlt
            have hx := dig_lt 65536 (by decide) u' j
            by_cases h15 : j < 15
            · have k1 : (j : Int) < 15 := by omega
              have k2 : ((j : Int) == 15) = false := by simp; omega
              have k3 : ¬ (j : Int) ≥ 15 := by omega
              have hput := R1.out.put (by omega) _ (lo_dig u' j h15).symm _ rfl
              rw [show j - 15 = j + 1 - 15 by omega] at hput
              have fl := R1.out.low.free j
              have cl := R1.out.low.cell j 0 (by omega) ((lowL_get u' j j (by omega)).trans (by rw [if_neg (Nat.lt_irrefl j)]))
              have HPUT := Lib.hid hput
              clear hput R1 hlt h15
              generalize u' / 65536 ^ j % 65536 = x at *
              go_wp2_with fail
              go_roundw
              case rel => exact ⟨j + 1, HLT.out, by go_num, HPUT.out⟩
              case measure => simp [intOf]; have := HLT.out; have := HN100.out; omega
            · have k1 : ¬ (j : Int) < 15 := by omega
              have k3 : (j : Int) ≥ 15 := by omega
              have H15 := Lib.hid (show 15 ≤ j by omega)
              have HG := Lib.hid (high_get u' n' j HU.out (by omega))
              have HAPP := Lib.hid (high_app u' j (by omega))
              have HYL := Lib.hid (dig_lt 65536 (by decide) u' (j + 1))
              by_cases h16 : j = 15
              case' pos =>
                have k2 : ((j : Int) == 15) = true := by simp; omega
                have j16 : (j : Int) < 16 := by omega
                have hput := R1.out.put (by omega) (u' / 65536 ^ j % 65536 % 32768) (by rw [h16]; exact (lo_dig15 u').symm) (.int .i64 (((u' / 65536 ^ j % 65536 : Nat) : Int) % 32768)) rfl
                have fl := R1.out.low.free j
                have cl := R1.out.low.cell j 0 (by omega) ((lowL_get u' j j (by omega)).trans (by rw [if_neg (Nat.lt_irrefl j)]))
                have HR := Lib.hid hput
                clear hput R1 hlt h15 h16
                generalize hxe : u' / 65536 ^ j % 65536 = x at *
                have HXE := Lib.hid hxe
                clear hxe
                go_upto_region 11 with fail
                generalize wr.setCell ⟨gl, j, none⟩ (.int .i64 ((x : Int) % 32768)) = wq at HR ⊢
                clear fl cl ca0 j16
              case' neg =>
                have k2 : ((j : Int) == 15) = false := by simp; omega
                have HR := Lib.hid (R1.out.skip (by omega))
                clear R1 hlt h15 h16
                generalize hxe : u' / 65536 ^ j % 65536 = x at *
                have HXE := Lib.hid hxe
                clear hxe
                clear ca0
                go_upto_region 11 with fail
                obtain ⟨wq, rfl⟩ : ∃ wq : World, wq = wr := ⟨_, rfl⟩
              all_goals
                have HHG := Lib.hid (show gl + 1 ≤ wq.heap.size from (own_cap HR.out.low.own).2.2.2)
                have HCA := Lib.hid (HA.out wq HR.out.low.bel)
                have HMJ := Lib.hid (show j - 15 + 1 ≤ maxLen by have := HLT.out; have := HN100.out; unfold maxLen; omega)
                have HBJ := Lib.hid (show (j - 15 + 1) * 8 ≤ 140737488355328 by have := HLT.out; have := HN100.out; omega)
                have ca0 := HCA.out j HLT.out
                rw [HXE.out] at ca0
                have hg := HG.out
                have hyl := HYL.out
                by_cases hj2 : j + 1 < n'
                case' pos =>
                  have m1 : (j : Int) + 1 < n' := by omega
                  have m0 : (0 : Int) ≤ (j : Int) + 1 := by omega
                  have ca1 := HCA.out (j + 1) hj2
                  rw [if_pos hj2] at hg
                  generalize u' / 65536 ^ (j + 1) % 65536 = y at *
                  have y1 : (y : Int) < 65536 := by omega
                  have y0 : (0 : Int) ≤ (y : Int) := by omega
                  obtain ⟨S, hS⟩ : ∃ S : Nat, S = x / 32768 + y % 32768 * 2 := ⟨_, rfl⟩
                  have qS : (x : Int) / 32768 + (y : Int) % 32768 * 2 = (S : Int) := by omega
                case' neg =>
                  have m1 : ¬ (j : Int) + 1 < n' := by omega
                  have m0 : (0 : Int) ≤ (j : Int) + 1 := by omega
                  have ca1 : True := trivial
                  rw [if_neg hj2] at hg
                  have y1 : True := trivial
                  have y0 : True := trivial
                  obtain ⟨S, hS⟩ : ∃ S : Nat, S = x / 32768 + 0 := ⟨_, rfl⟩
                  have qS : (x : Int) / 32768 = (S : Int) := by omega
                all_goals
                  rw [← hS] at hg
                  have S1 : (S : Int) < 65536 := by omega
                  have S0 : (0 : Int) ≤ (S : Int) := by omega
                  have qm : (S : Int) % 65536 = (S : Int) := by omega
                  have x1 : (x : Int) < 65536 := by omega
                  have x0 : (0 : Int) ≤ (x : Int) := by omega
                  have HAP2 := HAPP.out
                  rw [← hg] at HAP2
                  have HNEXT := Lib.hid (show ∀ (x1 : Value) (w1 : World), w1.ownsRow (gl + 1) 3 1 x1 (j - 15 + 1) (dvs (dgn 65536 (j - 15) (hi255 u')) ++ [.int .i64 (S : Int)]) → w1.ownsRow (gl + 1) 3 1 x1 (j + 1 - 15) (dvs (dgn 65536 (j + 1 - 15) (hi255 u'))) from by
                    intro x1 w1 h
                    rw [HAP2, dvs_app, show j + 1 - 15 = j - 15 + 1 by have := H15.out; omega]
                    exact h)
                  have HAL := Lib.hid (HR.out.high.alloc (.cells #[.int .i64 (S : Int)] 3 (0, 0)))
                  clear hS hg HAP2 HAPP HG HYL hyl hx HCA hj2 k2
                  go_upto_region 15 with fail
                  clear ca0 ca1 x1 x0 y1 y0 qS m1 m0 k1 k3
                  go_wp2_with (at_builtin; refine wpList_append_own _ rfl (.tmp 69) (.tmp 72) 26 rfl _ 3 i0 (.int .i64 0) 1 8 Try.underlying26 hi hz0 hz1 hz2 rfl (by decide) _ _ _ rfl HAL.out ⟨wq.heap.size, 0, none⟩ 1 1 [.int .i64 (S : Int)] rfl rfl (one_cell wq _ _) (one_one _ rfl) HMJ.out HBJ.out (le_alloc HHG.out _) ?_)
                  intro v1 w9 h1 h2 h3
                  have HR9 := Lib.hid (HR.out.app _ h2 (HNEXT.out _ _ h1))
                  clear h1 h2 h3
                  go_wp2_with fail
                  go_roundw
                  case rel => exact ⟨j + 1, by have := HLT.out; omega, by go_num, HR9.out⟩
                  case measure => simp [intOf]; have := HLT.out; have := HN100.out; omega
          · have j1 : ¬ (j : Int) < n' := by omega
            have hjn : j = n' := by have := HJ.out; omega
            have R2 := R1.out
            rw [hjn] at R2
            have HLOW := Lib.hid (show TSt gl 16 wo (dgn 65536 16 (lo255 u')) wr from by rw [← lowL_end u' n' H16.out]; exact R2.low)
            have HHI := Lib.hid (hi_lt HU.out (by have := H16.out; omega))
            obtain ⟨gh, ch, rfl, hgh, -⟩ := R2.high.form (by have := H16.out; omega)
            have HOH := Lib.hid R2.high
            obtain ⟨k0, hk0⟩ : ∃ k0, n' - 15 = k0 := ⟨_, rfl⟩
            rw [hk0] at HHI HOH ⊢
            have HK0 := Lib.hid (show k0 ≤ 85 by have := HN100.out; omega)
            have hch := Lib.hid (own_cap HOH.out)
            clear R2 R1 hgh hlt hjn hk0
            go_wp2_with fail
            obtain ⟨w5, rfl⟩ : ∃ w5 : World, w5 = wr := ⟨_, rfl⟩
            go_loopw [4] (fun x wr => ∃ k : Nat, k ≤ 85 ∧ k ≤ ch ∧ hi255 u' < 65536 ^ k ∧ x = .slice (some ⟨gh, 0, none⟩) k ch ∧ wr.ownsRow (gl + 1) 3 1 (.slice (some ⟨gh, 0, none⟩) k ch) k (dvs (dgn 65536 k (hi255 u'))) ∧ TSt gl 16 wo (dgn 65536 16 (lo255 u')) wr) (fun x _ => lenOf x)
            case atStart => exact ⟨k0, HK0.out, hch.out.1, HHI.out, rfl, HOH.out, HLOW.out⟩
            case round =>
              obtain ⟨k, hk, hkc, hlt, rfl, ho, hl⟩ := hrel
              have HO := Lib.hid ho
              have HL := Lib.hid hl
              have HKB := Lib.hid hk
              have HKC := Lib.hid hkc
              have HKH := Lib.hid hlt
              clear ho hl HLOW HOH HHI
              cases k with
              | zero =>
                have hz : hi255 u' = 0 := by have := HKH.out; rw [Nat.pow_zero] at this; omega
                have hzz := Lib.hid hz
                have K16 := Lib.hid (Nat.le_refl 16)
                have D2 := Lib.hid (show DS wr 0 (.slice (some ⟨gl, 0, none⟩) 16 16) 16 (lo255 u') from ⟨(show DS wr wo.heap.size _ 16 _ from ⟨HL.out.own, lo_lt u', by decide, by decide⟩).base (Nat.zero_le _) |>.1, lo_lt u', by decide, by decide⟩)
                have MQ := Lib.hid (show lo255 u' % Q' = u % Q' by rw [fold_same hz]; exact HMO.out)
                have BW := Lib.hid (show Below w.heap.size w wr from HB.out.trans (HL.out.bel.mono HB.out.size))
                have DEC := Lib.hid (show ∀ k3, k3 ≤ 16 → 2 * lo255 u' + (if k3 > 16 then 1 else 0) < 2 * u' + (if n' > 16 then 1 else 0) from fun k3 h3 => by
                  rw [fold_same hz, if_neg (by omega), if_pos (HGO.out hz)]
                  omega)
                clear hz hk hkc hlt
                go_wp2_with fail
                obtain ⟨wp, rfl⟩ : ∃ wp : World, wp = wr := ⟨_, rfl⟩
                go_loopw [0] (fun v wr => ∃ k : Nat, 16 ≤ k ∧ k ≤ 16 ∧ v = .slice (some ⟨gl, 0, none⟩) k 16 ∧ DS wr 0 (.slice (some ⟨gl, 0, none⟩) k 16) k (lo255 u') ∧ Below w.heap.size w wr) (fun v _ => lenOf v)
                case atStart => exact ⟨16, K16.out, Nat.le_refl _, rfl, D2.out, BW.out⟩
                case round =>
                  obtain ⟨k, hk16, hkK, rfl, hd, hbl⟩ := hrel
                  have D3 := Lib.hid hd
                  have B3 := Lib.hid hbl
                  have KK := Lib.hid hkK
                  have KG := Lib.hid hk16
                  have kb : (k : Int) ≤ 100 := by have := hd.2.2.2; omega
                  clear hd hbl hkK D2 BW
                  by_cases hk : k > 16
                  · obtain ⟨k, rfl⟩ : ∃ k', k = k' + 1 := ⟨k - 1, by omega⟩
                    have m1 : ((k + 1 : Nat) : Int) > 16 := by omega
                    have cd := D3.out.cell k (by omega)
                    have HCUT := Lib.hid (D3.out.cut (by omega))
                    have KC := Lib.hid (own_cap D3.out.1)
                    have k0 : (0 : Int) ≤ (k : Int) := by omega
                    have m2 : (k : Int) < ((k + 1 : Nat) : Int) := by omega
                    have m3 : ((k + 1 : Nat) : Int) - 1 = (k : Int) := by omega
                    have m4 : (k : Int) ≤ ((16 : Nat) : Int) := by have := KC.out.1; omega
                    generalize (lo255 u') / 65536 ^ k % 65536 = d at *
                    by_cases hdz : d = 0
                    · have z1 : ((d : Int) == 0) = true := by simp; omega
                      have HC2 := Lib.hid (HCUT.out hdz)
                      have KL := Lib.hid hk
                      clear hdz hk HCUT hk16
                      go_wp2_with fail
                      go_roundw
                      case rel => exact ⟨k, by have := KL.out; omega, by have := KK.out; omega, rfl, HC2.out, B3.out⟩
                      case measure => show k < k + 1; omega
                    · have z1 : ((d : Int) == 0) = false := by simp; omega
                      clear hdz hk HCUT hk16
                      go_wp2_with fail
                      go_roundw
                      case rel => exact ⟨_, _, KG.out, D3.out, MQ.out, B3.out⟩
                      case measure => rw [HREDM.out, D3.out.redM]; exact DEC.out _ KK.out
                  · have m1 : ¬ (k : Int) > 16 := by omega
                    clear hk hk16
                    go_wp2_with fail
                    go_roundw
                    case rel => exact ⟨_, _, KG.out, D3.out, MQ.out, B3.out⟩
                    case measure => rw [HREDM.out, D3.out.redM]; exact DEC.out _ KK.out
              | succ k =>
                have m1 : ((k + 1 : Nat) : Int) > 0 := by omega
                have cd : wr.cell? ⟨gh, k, none⟩ = some (.int .i64 ((hi255 u' / 65536 ^ k % 65536 : Nat) : Int)) := by
                  rw [HO.out.cellAt k (by omega), dvs, List.getElem?_map, dg_get _ _ _ _ (by omega)]
                  rfl
                have HCUT := Lib.hid (show hi255 u' / 65536 ^ k % 65536 = 0 → hi255 u' < 65536 ^ k from lt_of_top HKH.out)
                have HGE := Lib.hid (show hi255 u' / 65536 ^ k % 65536 ≠ 0 → hi255 u' ≠ 0 from fun h e => h (by rw [e, Nat.zero_div, Nat.zero_mod]))
                have HT := own_take HO.out (m := k) (by omega)
                rw [dvs_take, dgn_take _ _ _ _ (by omega)] at HT
                have HOT := Lib.hid HT
                have k0 : (0 : Int) ≤ (k : Int) := by omega
                have kb : (k : Int) ≤ 85 := by omega
                have m2 : (k : Int) < ((k + 1 : Nat) : Int) := by omega
                have m3 : ((k + 1 : Nat) : Int) - 1 = (k : Int) := by omega
                have m4 : (k : Int) ≤ (ch : Int) := by omega
                clear HT
                generalize hi255 u' / 65536 ^ k % 65536 = d at *
                by_cases hdz : d = 0
                · have z1 : ((d : Int) == 0) = true := by simp; omega
                  have HC2 := Lib.hid (HCUT.out hdz)
                  clear hdz HCUT hk hkc hlt
                  go_wp2_with fail
                  go_roundw
                  case rel => exact ⟨k, by have := HKB.out; omega, by have := HKC.out; omega, HC2.out, rfl, HOT.out, HL.out⟩
                  case measure => show k < k + 1; omega
                · have z1 : ((d : Int) == 0) = false := by simp; omega
                  have HNZ := Lib.hid (HGE.out hdz)
                  have DH := Lib.hid (show DS (wr.alloc (.cells #[.int .i64 19] 3 (0, 0))) (gl + 1) (.slice (some ⟨gh, 0, none⟩) (k + 1) ch) (k + 1) (hi255 u') from (show DS wr _ _ _ _ from ⟨HO.out, HKH.out, by omega, by have := HKB.out; omega⟩).on ((Below.refl _ _).alloc (Nat.le_refl _) _))
                  have D19 := Lib.hid (show DS (wr.alloc (.cells #[.int .i64 19] 3 (0, 0))) wr.heap.size (.slice (some ⟨wr.heap.size, 0, none⟩) 1 1) 1 19 from ⟨World.ownsRow_lit (base := wr.heap.size) (e := 3) (size := 1) wr #[.int .i64 19] 1 (Nat.le_refl _) (by decide) rfl, by decide, by decide, by decide⟩)
                  have DL0 := Lib.hid (show DS (wr.alloc (.cells #[.int .i64 19] 3 (0, 0))) wo.heap.size (.slice (some ⟨gl, 0, none⟩) 16 16) 16 (lo255 u') from (show DS wr _ _ _ _ from ⟨HL.out.own, lo_lt u', by decide, by decide⟩).on ((Below.refl _ _).alloc (Nat.le_refl _) _))
                  have BA := Lib.hid (show Below w.heap.size w (wr.alloc (.cells #[.int .i64 19] 3 (0, 0))) from below_alloc (HB.out.trans (HL.out.bel.mono HB.out.size)) _)
                  clear hdz HCUT HGE HOT hk hkc hlt
                  go_wp2_with fail
                  refine (rtimes_any (k + 1) 1 (hi255 u') 19 _ _ _ _ _ DH.out D19.out).mono ?_
                  rintro e w7 ⟨hb7, r7, rfl, ho7⟩
                  have DT := Lib.hid (show DS w7 _ r7 (k + 1 + 1) (hi255 u' * 19) from ⟨ho7, prod_lt_pow HKH.out (by decide) (by decide), by omega, by have := HKB.out; omega⟩)
                  have DL := Lib.hid (DL0.out.on hb7)
                  have B7 := Lib.hid (BA.out.trans (hb7.mono BA.out.size))
                  clear hb7 ho7 D19 DH DL0 BA
                  go_wp2_with fail
                  refine (radd_any 16 (k + 1 + 1) (lo255 u') (hi255 u' * 19) _ _ _ _ _ DL.out DT.out).mono ?_
                  rintro e w8 ⟨hb8, r8, k2, rfl, p1, p2, p3, p4, ho8⟩
                  have BW := Lib.hid (B7.out.trans (hb8.mono B7.out.size))
                  have hd8 : DS w8 0 r8 k2 (lo255 u' + hi255 u' * 19) := (show DS w8 _ r8 k2 _ from ⟨ho8, p4, by omega, by have := HKB.out; omega⟩).base (Nat.zero_le _)
                  obtain ⟨g2, c2, rfl, -, -⟩ := hd8.form
                  have D2 := Lib.hid hd8
                  have K16 := Lib.hid p1
                  have MQ := Lib.hid (show (lo255 u' + hi255 u' * 19) % Q' = u % Q' by rw [Nat.mul_comm, fold_mod]; exact HMO.out)
                  have DEC := Lib.hid (show ∀ k3, k3 ≤ k2 → 2 * (lo255 u' + hi255 u' * 19) + (if k3 > 16 then 1 else 0) < 2 * u' + (if n' > 16 then 1 else 0) from fun k3 h3 => by
                    have := fold_lt HNZ.out
                    split <;> omega)
                  clear hb8 ho8 p1 p2 p3 p4 hd8 DT DL B7 cd m1 m2 m3 m4 k0 kb z1 HKH HKB HKC HO HL
                  go_wp2_with fail
                  obtain ⟨wp, rfl⟩ : ∃ wp : World, wp = w8 := ⟨_, rfl⟩
                  go_loopw [0] (fun v wr => ∃ k : Nat, 16 ≤ k ∧ k ≤ k2 ∧ v = .slice (some ⟨g2, 0, none⟩) k c2 ∧ DS wr 0 (.slice (some ⟨g2, 0, none⟩) k c2) k (lo255 u' + hi255 u' * 19) ∧ Below w.heap.size w wr) (fun v _ => lenOf v)
                  case atStart => exact ⟨k2, K16.out, Nat.le_refl _, rfl, D2.out, BW.out⟩
                  case round =>
                    obtain ⟨k, hk16, hkK, rfl, hd, hbl⟩ := hrel
                    have D3 := Lib.hid hd
                    have B3 := Lib.hid hbl
                    have KK := Lib.hid hkK
                    have KG := Lib.hid hk16
                    have kb : (k : Int) ≤ 100 := by have := hd.2.2.2; omega
                    clear hd hbl hkK D2 BW
                    by_cases hk : k > 16
                    · obtain ⟨k, rfl⟩ : ∃ k', k = k' + 1 := ⟨k - 1, by omega⟩
                      have m1 : ((k + 1 : Nat) : Int) > 16 := by omega
                      have cd := D3.out.cell k (by omega)
                      have HCUT := Lib.hid (D3.out.cut (by omega))
                      have KC := Lib.hid (own_cap D3.out.1)
                      have k0 : (0 : Int) ≤ (k : Int) := by omega
                      have m2 : (k : Int) < ((k + 1 : Nat) : Int) := by omega
                      have m3 : ((k + 1 : Nat) : Int) - 1 = (k : Int) := by omega
                      have m4 : (k : Int) ≤ ((c2 : Nat) : Int) := by have := KC.out.1; omega
                      generalize (lo255 u' + hi255 u' * 19) / 65536 ^ k % 65536 = d at *
                      by_cases hdz : d = 0
                      · have z1 : ((d : Int) == 0) = true := by simp; omega
                        have HC2 := Lib.hid (HCUT.out hdz)
                        have KL := Lib.hid hk
                        clear hdz hk HCUT hk16
                        go_wp2_with fail
                        go_roundw
                        case rel => exact ⟨k, by have := KL.out; omega, by have := KK.out; omega, rfl, HC2.out, B3.out⟩
                        case measure => show k < k + 1; omega
                      · have z1 : ((d : Int) == 0) = false := by simp; omega
                        clear hdz hk HCUT hk16
                        go_wp2_with fail
                        go_roundw
                        case rel => exact ⟨_, _, KG.out, D3.out, MQ.out, B3.out⟩
                        case measure => rw [HREDM.out, D3.out.redM]; exact DEC.out _ KK.out
                    · have m1 : ¬ (k : Int) > 16 := by omega
                      clear hk hk16
                      go_wp2_with fail
                      go_roundw
                      case rel => exact ⟨_, _, KG.out, D3.out, MQ.out, B3.out⟩
                      case measure => rw [HREDM.out, D3.out.redM]; exact DEC.out _ KK.out
    · have hn16 : n' = 16 := by have := H16.out; omega
      have HZ := Lib.hid (show hi255 u' = 0 from Decidable.byContradiction fun h => hgo (.inr ((HTOP.out hn16).2 h)))
      have HT := Lib.hid (red_end HZ.out)
      have q1 : ¬ (n' : Int) > 16 := by omega
      have q2 : ((n' : Int) == 16) = true := by simp; omega
      have q3 : ¬ (t : Int) > 32767 := by omega
      have q4 : ¬ (n' : Int) < 16 := by omega
      have HN := Lib.hid hn16
      clear hgo HTOP hn16
      go_wp2_with fail
      obtain ⟨wp, rfl⟩ : ∃ wp : World, wp = wr := ⟨_, rfl⟩
      go_loopw [0] (fun v wr' => v = .slice (some ⟨ga, 0, none⟩) n' ca ∧ wr' = wp) (fun _ _ => 0)
      case atStart => exact ⟨rfl, rfl⟩
      case round =>
        obtain ⟨rfl, rfl⟩ := hrel
        go_wp2_with fail
        refine (rprime_any _).mono ?_
        rintro e w7 ⟨hb7, r7, rfl, ho7⟩
        have DP := Lib.hid (show DS w7 _ r7 16 Q' from ⟨ho7, by decide, by decide, by decide⟩)
        have DA := Lib.hid (show DS w7 0 (.slice (some ⟨ga, 0, none⟩) 16 ca) 16 u' from by have := HD.out.on hb7; rw [HN.out] at this; exact this.base (Nat.zero_le _))
        have B7 := Lib.hid (HB.out.trans (hb7.mono HB.out.size))
        rw [HN.out]
        clear hb7 ho7
        go_wp2_with fail
        refine (rbelow_any u' Q' _ _ _ _ _ DA.out DP.out).mono ?_
        rintro e w8 ⟨rfl, hb8⟩
        have DP8 := Lib.hid (DP.out.on hb8)
        have DA8 := Lib.hid (DA.out.on hb8)
        have B8 := Lib.hid (B7.out.trans (hb8.mono B7.out.size))
        clear hb8 DP DA B7
        by_cases hlt : u' < Q'
        · rw [decide_eq_true hlt]
          have HT2 := HT.out
          rw [if_pos hlt] at HT2
          have HT3 := Lib.hid HT2
          clear hlt HT HT2
          go_wp2_with fail
          go_ret
          exact ⟨B8.out, _, rfl, by rw [← HMO.out, HT3.out]; exact DA8.out⟩
        · rw [decide_eq_false hlt]
          have HT2 := HT.out
          rw [if_neg hlt] at HT2
          have HT3 := Lib.hid HT2
          have HL := Lib.hid (Nat.le_of_not_lt hlt)
          clear hlt HT HT2
          go_wp2_with fail
          refine (rminus_any u' Q' _ _ _ _ _ DA8.out DP8.out HL.out).mono ?_
          rintro e w9 ⟨hb9, r9, rfl, ho9⟩
          have E9 := Lib.hid (show Below w.heap.size w w9 ∧ DS w9 0 r9 16 (u % Q') from by
            refine ⟨B8.out.trans (hb9.mono B8.out.size), ?_⟩
            rw [← HMO.out, HT3.out]
            exact (show DS w9 _ r9 16 (u' - Q') from ⟨ho9, Nat.lt_of_le_of_lt (Nat.sub_le _ _) (by have := DA8.out.2.1; exact this), by decide, by decide⟩).base (Nat.zero_le _))
          clear hb9 ho9
          go_wp2_with fail
          go_ret
          exact ⟨E9.out.1, _, rfl, E9.out.2⟩
end Go.Proofs.Ythlmphloalbhnaa
