/-
  Texts of this seat, put together (what is needed of them): MacP, ShaP, RShA, RShB, ShaK, RSum, BQ, RMac, RMacD, FeP, FeK, Rw, FeA, FeL, MulP, FeM.
-/
import Derived.Test.YtfckjilhkdlpfaaGreatDoorZZ1
import Derived.Deep.RegionWith
import Derived.Stop.BytesEq
import Derived.Below
import Derived.Deep.DeepCutAuto
import Derived.Test.YtfckjilhkdlpfaaGreatDoorProg
import Derived.Laws.Rows
import Derived.Laws.BitsAllLaws
import Derived.Laws.ResultCell
import Derived.Laws.AppendOwn
import Derived.Shelf.Bits.Mul64
import Derived.Shelf.Spec.BitsCarry

namespace Go.Proofs.YtfckjilhkdlpfaaGreatDoor
open Go.RowKit MS
theorem kB_idem (k : ByteArray) : kB (kB k) = kB k := by
  have := size_kB k
  rw [kB, if_neg (by omega)]
theorem macB_kB (k s : ByteArray) : macB (kB k) s = macB k s := by rw [macB, kB_idem]; rfl
/-- The n-th digest (from 0 on) of a password's key. -/
def pwU (k s : ByteArray) : Nat → ByteArray
  | 0 => macB k (s ++ bs [0, 0, 0, 1])
  | n + 1 => macB k (pwU k s n)
theorem size_pwU (k s : ByteArray) (n : Nat) : (pwU k s n).size = 32 := by
  cases n <;> exact size_macB _ _
/-- All of them up to the n-th, turned by each other. -/
def pwX (k s : ByteArray) : Nat → List UInt8
  | 0 => ls (pwU k s 0)
  | n + 1 => mixl (pwX k s n) (fun i => (ls (pwU k s (n + 1))).getD i 0) 32
theorem length_pwX (k s : ByteArray) (n : Nat) : (pwX k s n).length = 32 := by
  induction n with
  | zero => rw [pwX, length_ls, size_pwU]
  | succ n ih => rw [pwX, length_mixl, ih]
/-- A password's key. -/
def pwB (k s : ByteArray) (r : Nat) : ByteArray := bs (pwX k s (r - 1))
theorem size_pwB (k s : ByteArray) (r : Nat) : (pwB k s r).size = 32 := by rw [pwB, size_bs, length_pwX]

set_option maxHeartbeats 400000 in
theorem pass_no (k s : ByteArray) (r : Int) (w : World) (hr : r < 1 ∨ 64 < r) :
    Calls Tryz.prog 35 #[.string k, .string s, .int .i64 r] w fun e w' => e = .returned (.tuple #[.string ⟨#[]⟩, .int .i64 1]) ∧ Below w.heap.size w w' := by
  by_cases h : r < 1
  · go_enter Tryz.func35, Tryz.ntmps35
    go_wp2_with fail
    go_ret2
    exact ⟨rfl, Below.refl _ _⟩
  · have h2 : r > 64 := by omega
    go_enter Tryz.func35, Tryz.ntmps35
    go_wp2_with fail
    go_ret2
    exact ⟨rfl, Below.refl _ _⟩

theorem vls_set (l : List UInt8) (i : Nat) (x : UInt8) : (vls l).set i (.int .u8 (x.toNat : Int)) = vls (l.set i x) := by
  rw [vls, vls, List.map_set]
  rfl
theorem vls_get (l : List UInt8) (i : Nat) (h : i < l.length) : (vls l)[i]? = some (.int .u8 ((l.getD i 0).toNat : Int)) := by simp [vls, valB, h]

set_option maxRecDepth 100000 in
set_option maxHeartbeats 2000000 in
theorem pass_yes (k s : ByteArray) (r : Nat) (w : World) (hr0 : 1 ≤ r) (hr : r ≤ 64) (h1 : k.size ≤ 1000) (h2 : s.size ≤ 1000) (G : Glob w) :
    Calls Tryz.prog 35 #[.string k, .string s, .int .i64 r] w fun e w' => e = .returned (.tuple #[.string (pwB k s r), .int .i64 0]) ∧ Below w.heap.size w w' := by
  have HG := Lib.hid G
  have HR0 := Lib.hid hr0
  have HR := Lib.hid hr
  have r0 : (1 : Int) ≤ r := by omega
  have r1 : (r : Int) ≤ 64 := by omega
  have HP := Lib.hid (show pwB k s r = bs (pwX k s (r - 1)) from rfl)
  have M1 := Lib.hid (fun w G => mac_any (kB k) (s ++ bs [0, 0, 0, 1]) w (by have := size_kB k; omega) (by rw [ByteArray.size_append, size_bs]; simp only [List.length_cons, List.length_nil]; omega) G)
  have M2 := Lib.hid (fun n w G => mac_any (kB k) (pwU k s n) w (by have := size_kB k; omega) (by rw [size_pwU]; decide) G)
  rw [macB_kB] at M1
  simp only [macB_kB] at M2
  have hss : (s.size : Int) + 4 ≤ 1004 := by omega
  have hss2 : (s.size : Int) + ((bs [0, 0, 0, 1]).size : Int) ≤ 1004 := by rw [size_bs]; simp only [List.length_cons, List.length_nil]; omega
  have HKK := Lib.hid (show k.size > 64 → ∀ w, Glob w → Calls Tryz.prog 60 #[.string k] w fun e w' => e = .returned (.string (kB k)) ∧ Below w.heap.size w w' from fun h w G => by
    have := sum_any k w (by omega) G
    rwa [show sumB k = kB k by rw [kB, if_pos h]] at this)
  have HKN := Lib.hid (show ¬ k.size > 64 → kB k = k from fun h => by rw [kB, if_neg h])
  generalize hK : kB k = K at M1 M2 HKK HKN
  clear hK
  have HU := Lib.hid (show ∀ n, macB k (pwU k s n) = pwU k s (n + 1) from fun n => rfl)
  have HX := Lib.hid (show ∀ n, pwX k s (n + 1) = mixl (pwX k s n) (fun i => (ls (pwU k s (n + 1))).getD i 0) 32 from fun n => rfl)
  have HX0 := Lib.hid (show pwX k s 0 = ls (pwU k s 0) from rfl)
  have HXL := Lib.hid (fun n => length_pwX k s n)
  have HUL := Lib.hid (fun n => size_pwU k s n)
  rw [show macB k (s ++ bs [0, 0, 0, 1]) = pwU k s 0 from rfl] at M1
  generalize pwB k s r = R at HP
  generalize hpX : pwX k s = pX at HP HX HX0 HXL
  generalize hpU : pwU k s = pU at M1 M2 HU HX HX0 HUL
  clear hpX hpU hr0 hr h1 h2 G
  by_cases h : k.size > 64
  case' pos =>
    have t1 : decide ((k.size : Int) > 64) = true := by simp; omega
    have SK := Lib.hid (HKK.out h)
    clear h HKK HKN
    go_enter Tryz.func35, Tryz.ntmps35
    go_wp2_with fail
    refine (SK.out _ HG.out).mono ?_
    rintro e w1 ⟨rfl, hb1⟩
    have B1 := Lib.hid hb1
    clear hb1 SK
    go_wp2_with fail
    refine (M1.out _ (HG.out.on B1.out)).mono ?_
    rintro e w2 ⟨rfl, hb2⟩
    have B2 := Lib.hid (B1.out.trans (hb2.mono B1.out.size))
    clear hb2 B1
  case' neg =>
    have t1 : decide ((k.size : Int) > 64) = false := by simp; omega
    have e := HKN.out h
    subst e
    clear h HKK HKN
    go_enter Tryz.func35, Tryz.ntmps35
    go_wp2_with fail
    refine (M1.out _ HG.out).mono ?_
    rintro e w2 ⟨rfl, hb2⟩
    have B2 := Lib.hid hb2
    clear hb2
  all_goals
    have HS2 := Lib.hid (show w.heap.size ≤ w2.heap.size from B2.out.size)
    go_wp2_with (refine wpList_conv_own rfl (.tmp 26) 9 83 5 rfl (pU 0) rfl Tryz.underlying9 Tryz.underlying83 Tryz.underlying5 w.heap.size 32 (HUL.out 0) HS2.out (by decide) ?_)
    intro g cap w3 o3 hb3
    have O3 := Lib.hid (show ownsF w3 w.heap.size 5 (.slice (some ⟨g, 0, none⟩) 32 cap) 32 (vls (pX 0)) from by rw [HX0.out]; exact o3)
    have B3 := Lib.hid (B2.out.trans (hb3.mono B2.out.size))
    clear o3 hb3 HS2 B2
    go_wp2_with fail
    go_loopw [8, 30] (fun l i wr => ∃ j : Nat, j ≤ r - 1 ∧ i = .int .i64 j ∧ l = .string (pU j) ∧ ownsF wr w.heap.size 5 (.slice (some ⟨g, 0, none⟩) 32 cap) 32 (vls (pX j)) ∧ Below w.heap.size w wr) (fun _ i _ => r - (intOf i).toNat)
    case atStart => exact ⟨0, by omega, rfl, rfl, O3.out, B3.out⟩
    case round =>
      obtain ⟨j, hj, rfl, rfl, ho, hb⟩ := hrel
      have O4 := Lib.hid ho
      have B4 := Lib.hid hb
      have HJ := Lib.hid hj
      clear ho hb hj O3 B3
      by_cases hlt : j < r - 1
      · have j1 : (j : Int) < r - 1 := by omega
        have j0 : (0 : Int) ≤ j := by omega
        have HLT := Lib.hid hlt
        clear hlt
        go_wp2_with fail
        refine (M2.out j _ (HG.out.on B4.out)).mono ?_
        rintro e w5 ⟨rfl, hb5⟩
        rw [HU.out j]
        have O5 := Lib.hid (O4.out.on hb5)
        have B5 := Lib.hid (B4.out.trans (hb5.mono B4.out.size))
        have HXJ := Lib.hid (HX.out j)
        have HDL := Lib.hid (HUL.out (j + 1))
        have HLJ := Lib.hid (HXL.out j)
        generalize hD : pU (j + 1) = D at HXJ HDL ⊢
        have HD := Lib.hid hD
        clear hb5 hD O4 B4
        go_wp2_with fail
        obtain ⟨wo, rfl⟩ : ∃ wo : World, wo = wr := ⟨_, rfl⟩
        go_loopw [37] (fun i wr => ∃ p : Nat, p ≤ 32 ∧ i = .int .i64 p ∧ ownsF wr w.heap.size 5 (.slice (some ⟨g, 0, none⟩) 32 cap) 32 (vls (mixl (pX j) (fun i => (ls D).getD i 0) p)) ∧ Below w.heap.size w wr) (fun i _ => 32 - (intOf i).toNat)
        case atStart => exact ⟨0, by omega, rfl, by rw [mixl_zero]; exact O5.out, B5.out⟩
        case round =>
          obtain ⟨p, hp, rfl, ho, hb⟩ := hrel
          have O6 := Lib.hid ho
          have B6 := Lib.hid hb
          clear ho hb O5 B5
          by_cases hlt : p < 32
          · have p1 : (p : Int) < 32 := by omega
            have p0 : (0 : Int) ≤ p := by omega
            have hpd : p < D.size := by rw [HDL.out]; exact hlt
            have hpi : (p : Int) < D.size := by omega
            have HP9 := Lib.hid hlt
            have hml : (mixl (pX j) (fun i => (ls D).getD i 0) p).length = 32 := by rw [length_mixl, HLJ.out]
            have c1 := O6.out.cell p hlt
            rw [vls_get _ _ (by rw [hml]; exact hlt), mixl_getD _ _ _ (by rw [HLJ.out]; exact hlt)] at c1
            have f1 := O6.out.free p hlt
            have HST := Lib.hid (mixl_step (pX j) (fun i => (ls D).getD i 0) p (by rw [HLJ.out]; exact hlt))
            have hgd := ls_get D p hpd
            generalize (ls D).getD p 0 = y at HST hgd
            generalize (pX j).getD p 0 = x at c1 HST
            have HPUT := Lib.hid (O6.out.put p (.int .u8 ((x ^^^ y).toNat : Int)))
            rw [vls_set, HST.out] at HPUT
            have hxor : bits .xor .u8 (x.toNat : Int) (y.toNat : Int) = (((x ^^^ y).toNat : Nat) : Int) := by rw [u8_xor_nat _ _ x.toNat_lt y.toNat_lt, UInt8.toNat_xor]
            generalize x ^^^ y = z at HPUT hxor
            clear hml hlt
            go_wp2_with fail
            go_still_tail 9, (by kernel_rfl)
            go_wp2_with fail
            go_roundw
            case rel => exact ⟨p + 1, HP9.out, by go_num, HPUT.out.drew, (below_setCell B6.out O6.out.ge _).drew⟩
            case measure => simp [intOf]; omega
          · have p1 : ¬ ((p : Int) < 32) := by omega
            have hp32 : p = 32 := by omega
            have O7 := O6.out
            rw [hp32, ← HXJ.out] at O7
            have O8 := Lib.hid O7
            clear O7 hp32 hlt
            go_wp2_with fail
            go_roundw
            case rel => exact ⟨j + 1, HLT.out, by go_num, by rw [HD.out], O8.out, B6.out⟩
            case measure => simp [intOf]; omega
      · have j1 : ¬ ((j : Int) < r - 1) := by omega
        have hjr : j = r - 1 := by have := HJ.out; omega
        have O9 := O4.out
        rw [hjr] at O9
        have hcv := ownsF_conv (P := Tryz.prog) wr w.heap.size 83 9 5 Tryz.underlying83 Tryz.underlying5 Tryz.underlying9 (l := pX (r - 1)) O9 0 32 cap (by omega)
        rw [List.drop_zero, List.take_of_length_le (by rw [HXL.out]; omega), ← HP.out] at hcv
        clear O9 hjr hlt
        go_wp2_with fail
        go_ret2
        exact ⟨rfl, B4.out⟩
end Go.Proofs.YtfckjilhkdlpfaaGreatDoor

namespace Go.Proofs.YtfckjilhkdlpfaaGreatDoor
open Go.RowKit MS
theorem hs_add (bw : Nat → Nat → W32) (st : Array W32) (a b : Nat) : hs bw st (a + b) = hs (fun m => bw (a + m)) (hs bw st a) b := by
  induction b with
  | zero => rfl
  | succ b ih => rw [← Nat.add_assoc, hs, ih, hs]
theorem hs_congr (bw bw' : Nat → Nat → W32) (st : Array W32) (n : Nat) (h : ∀ m, m < n → bw m = bw' m) : hs bw st n = hs bw' st n := by
  induction n with
  | zero => rfl
  | succ n ih => rw [hs, hs, ih (fun m hm => h m (by omega)), h n (by omega)]
def padZ (n : Nat) : Nat := (119 - n % 64) % 64
def padL (s : ByteArray) : List UInt8 := (ls s ++ 128 :: List.replicate (padZ s.size) 0) ++ be8 (s.size * 8)
def padB (s : ByteArray) : ByteArray := bs (padL s)
theorem padL_split (s : ByteArray) : padL s = (ls s).take (64 * (s.size / 64)) ++ endL (ls (s.extract (64 * (s.size / 64)) s.size)) (s.size * 8) := by
  have h1 : ls (s.extract (64 * (s.size / 64)) s.size) = (ls s).drop (64 * (s.size / 64)) := by
    rw [ls_extract, List.take_of_length_le]
    rw [List.length_drop, length_ls]; omega
  have h2 : ((ls s).drop (64 * (s.size / 64))).length = s.size % 64 := by rw [List.length_drop, length_ls]; omega
  rw [h1, endL, h2]
  have h3 : (if s.size % 64 + 9 > 64 then 128 else 64) - s.size % 64 - 9 = padZ s.size := by
    unfold padZ
    split <;> omega
  rw [h3, padL, ← List.append_assoc, ← List.append_assoc, List.take_append_drop]
theorem length_padL (s : ByteArray) : (padL s).length = 64 * (s.size / 64) + (lastB s).size := by
  rw [padL_split, List.length_append, List.length_take, length_ls, Nat.min_eq_left (by omega), lastB, size_bs]
theorem size_padB (s : ByteArray) : (padB s).size = s.size + 9 + padZ s.size := by
  rw [padB, size_bs, padL]
  simp [length_ls, be8]
  omega
theorem size_padB_mod (s : ByteArray) : (padB s).size % 64 = 0 := by
  rw [size_padB]; unfold padZ; omega
theorem size_lastB (s : ByteArray) : (lastB s).size = 64 ∨ (lastB s).size = 128 := by
  rw [lastB, size_bs, length_endL _ _ (by rw [length_ls, size_ext]; omega)]
  split <;> omega
theorem bwT_pad_low (s : ByteArray) (m : Nat) (h : m < s.size / 64) : bwT (padB s) m = bwT s m := by
  unfold bwT
  congr 1
  apply ls_inj
  rw [ls_extract, ls_extract, padB, ls_bs, padL_split]
  apply List.ext_getElem?
  intro j
  simp only [List.getElem?_take, List.getElem?_drop]
  by_cases hj : j < 64 * m + 64 - 64 * m
  · rw [if_pos hj, if_pos hj, List.getElem?_append_left (by rw [List.length_take, length_ls]; omega), List.getElem?_take, if_pos (by omega)]
  · rw [if_neg hj, if_neg hj]
theorem bwT_pad_high (s : ByteArray) (m : Nat) : bwT (padB s) (s.size / 64 + m) = bwT (lastB s) m := by
  unfold bwT
  congr 1
  apply ls_inj
  rw [ls_extract, ls_extract, padB, ls_bs, padL_split, lastB, ls_bs]
  apply List.ext_getElem?
  intro j
  simp only [List.getElem?_take, List.getElem?_drop]
  have hl : ((ls s).take (64 * (s.size / 64))).length = 64 * (s.size / 64) := by rw [List.length_take, length_ls]; omega
  by_cases hj : j < 64
  · rw [if_pos (by omega), if_pos (by omega), List.getElem?_append_right (by omega), hl]
    congr 1
    omega
  · rw [if_neg (by omega), if_neg (by omega)]
theorem fin_pad (s : ByteArray) : hs (bwT (padB s)) IV ((padB s).size / 64) = fin s := by
  have h1 : (padB s).size / 64 = s.size / 64 + (lastB s).size / 64 := by
    rw [padB, size_bs, length_padL]
    have := size_lastB s
    omega
  rw [h1, hs_add, fin, hs_congr (fun m => bwT (padB s) (s.size / 64 + m)) (bwT (lastB s)) _ _ (fun m _ => bwT_pad_high s m), hs_congr (bwT (padB s)) (bwT s) IV _ (fun m hm => bwT_pad_low s m hm)]
end Go.Proofs.YtfckjilhkdlpfaaGreatDoor

namespace Go.Proofs.YtfckjilhkdlpfaaGreatDoor
open Go.RowKit MS
theorem ws1_get (b : Nat → W32) (i t : Nat) (hi : i ≤ 64) (ht : t < i) : (ws1 b i).getD t 0 = b t := by
  induction i with
  | zero => omega
  | succ i ih =>
    rw [ws1, Array.getD_eq_getD_getElem?, Array.getElem?_setIfInBounds, size_ws1]
    by_cases h : i = t
    · subst h
      rw [if_pos rfl, if_pos (by omega)]
      rfl
    · rw [if_neg h, ← Array.getD_eq_getD_getElem?]
      exact ih (by omega) (by omega)
theorem ws2_keep (p : Array W32) (i d t : Nat) (ht : t < 16 + i) : (ws2 p (i + d)).getD t 0 = (ws2 p i).getD t 0 := by
  induction d with
  | zero => rfl
  | succ d ih =>
    rw [← Nat.add_assoc, ws2, Array.getD_eq_getD_getElem?, Array.getElem?_setIfInBounds, if_neg (by omega), ← Array.getD_eq_getD_getElem?]
    exact ih
theorem sch_lo (b : Nat → W32) (t : Nat) (ht : t < 16) : (sch b).getD t 0 = b t := by
  have := ws2_keep (ws1 b 16) 0 48 t (by omega)
  rw [Nat.zero_add] at this
  rw [sch, this]
  exact ws1_get b 16 t (by omega) ht
theorem sch_hi (b : Nat → W32) (t : Nat) (h1 : 16 ≤ t) (h2 : t < 64) : (sch b).getD t 0 = nxt (sch b) t := by
  obtain ⟨i, rfl⟩ : ∃ i, t = 16 + i := ⟨t - 16, by omega⟩
  have hk : ∀ u, u < 16 + i → (sch b).getD u 0 = (ws2 (ws1 b 16) i).getD u 0 := by
    intro u hu
    have := ws2_keep (ws1 b 16) i (48 - i) u hu
    rw [show i + (48 - i) = 48 by omega] at this
    exact this
  have hs : (sch b).getD (16 + i) 0 = (ws2 (ws1 b 16) (i + 1)).getD (16 + i) 0 := by
    have := ws2_keep (ws1 b 16) (i + 1) (47 - i) (16 + i) (by omega)
    rw [show i + 1 + (47 - i) = 48 by omega] at this
    exact this
  rw [hs, ws2, Array.getD_eq_getD_getElem?, Array.getElem?_setIfInBounds, if_pos rfl, if_pos (by rw [size_ws2, size_ws1]; omega)]
  show nxt (ws2 (ws1 b 16) i) (16 + i) = _
  unfold nxt
  rw [hk _ (by omega), hk _ (by omega), hk _ (by omega), hk _ (by omega)]
/-- The first j words, as a list. -/
def wl (W : Array W32) (j : Nat) : List W32 := (List.range j).map fun t => W.getD t 0
theorem wl_succ (W : Array W32) (j : Nat) : wl W (j + 1) = wl W j ++ [W.getD j 0] := by simp [wl, List.range_succ]
theorem wvs_app (l : List W32) (x : W32) : wvs (l ++ [x]) = wvs l ++ [.int .u32 (wv x)] := by simp [wvs]
theorem own_word {B : Nat} {w : World} {v : Value} {W : Array W32} {j : Nat} (h : w.ownsRow B 86 1 v j (wvs (wl W j))) (g cap : Nat) (hv : v = .slice (some ⟨g, 0, none⟩) j cap) (t : Nat) (ht : t < j) : w.cell? ⟨g, t, none⟩ = some (.int .u32 (wv (W.getD t 0))) := by
  subst hv
  rw [h.cellAt t (by omega)]
  simp [wvs, wl, ht]
theorem nxt_eq (W : Array W32) (t : Nat) : s0 (W.getD (t - 15) 0) + s1 (W.getD (t - 2) 0) + W.getD (t - 7) 0 + W.getD (t - 16) 0 = nxt W t := by
  unfold nxt
  ac_rfl
theorem w_ch (e f g : W32) : (e &&& f) ||| (~~~e &&& g) = chs e f g := by
  unfold chs
  apply BitVec.eq_of_getLsbD_eq
  intro i hi
  simp only [BitVec.getLsbD_or, BitVec.getLsbD_and, BitVec.getLsbD_xor, BitVec.getLsbD_not, hi, decide_true, Bool.true_and]
  cases e.getLsbD i <;> cases f.getLsbD i <;> cases g.getLsbD i <;> rfl
theorem w_mj (a b c : W32) : (a &&& b) ||| (a &&& c) ||| (b &&& c) = mj a b c := by
  unfold mj
  apply BitVec.eq_of_getLsbD_eq
  intro i hi
  simp only [BitVec.getLsbD_or, BitVec.getLsbD_and, BitVec.getLsbD_xor]
  cases a.getLsbD i <;> cases b.getLsbD i <;> cases c.getLsbD i <;> rfl
theorem w_neg (x : W32) : (4294967295 - wv x) % 4294967296 = wv (~~~x) := by
  unfold wv
  rw [BitVec.toNat_not]
  have := x.isLt
  omega
end Go.Proofs.YtfckjilhkdlpfaaGreatDoor

namespace Go.Proofs.YtfckjilhkdlpfaaGreatDoor
open Go.RowKit MS
structure RBt (w0 : World) (W : Array W32) (v : Value) (j : Nat) (w : World) : Prop where
  own : w.ownsRow w0.heap.size 86 1 v j (wvs (wl W j))
  bel : Below w0.heap.size w0 w

attribute [local go_sem] w_add w_xor w_and w_or w_neg
set_option maxRecDepth 100000 in
set_option maxHeartbeats 1000000 in
theorem rsha_block (gk gh ck ch : Nat) (st : Array W32) (s : ByteArray) (w : World) (hs : s.size = 64)
    (hk : ∀ i, i < 64 → w.cell? ⟨gk, i, none⟩ = some (.int .u32 (wv (KT.getD i 0)))) (hh : ∀ i, i < 8 → w.cell? ⟨gh, i, none⟩ = some (.int .u32 (wv (st.getD i 0)))) :
    Calls Tryz.prog 130 #[.slice (some ⟨gk, 0, none⟩) 64 ck, .slice (some ⟨gh, 0, none⟩) 8 ch, .string s] w fun e w' => Below w.heap.size w w' ∧ ∃ g, e = .returned (.slice (some ⟨g, 0, none⟩) 8 8) ∧ w.heap.size ≤ g ∧ w'.heap[g]? = some (.cells (rowW (blk8 st (be s))) 86 (0, 0)) := by
  obtain ⟨i0, hi, hz0, hz1, hz2⟩ : ∃ i, Tryz.prog.info? 86 = some i ∧ i.zero = some (.int .u32 0) ∧ i.size = 1 ∧ i.bytes = 4 := ⟨_, rfl, rfl, rfl, rfl⟩
  have hgk : gk < w.heap.size := World.block_lt_of_cell? w _ (hk 0 (by decide))
  have hgh : gh < w.heap.size := World.block_lt_of_cell? w _ (hh 0 (by decide))
  have HS := Lib.hid hs
  have HK := Lib.hid (fun w' (hb : Below w.heap.size w w') i hi => (hb.cell (p := ⟨gk, i, none⟩) hgk).trans (hk i hi))
  have HH := Lib.hid (fun w' (hb : Below w.heap.size w w') i hi => (hb.cell (p := ⟨gh, i, none⟩) hgh).trans (hh i hi))
  have HLO := Lib.hid (fun t ht => sch_lo (be s) t ht)
  have HHI := Lib.hid (fun t h1 h2 => (nxt_eq (sch (be s)) t).trans (sch_hi (be s) t h1 h2).symm)
  have HBK := Lib.hid (show blk8 st (be s) = addA st (rds (sch (be s)) (ofA st) 64) from rfl)
  generalize sch (be s) = W at HLO HHI HBK
  clear hs hk hh hgk hgh
  have hown0 : w.ownsRow w.heap.size 86 1 (.slice none 0 0) 0 (wvs []) := ⟨rfl, .inl ⟨rfl, rfl⟩⟩
  go_enter Tryz.func130, Tryz.ntmps130
  go_wp2_with fail
  go_loopw [7, 8] (fun v i wr => ∃ j : Nat, j ≤ 64 ∧ i = .int .i64 j ∧ RBt w W v j wr) (fun _ i _ => 64 - (intOf i).toNat)
  case atStart => exact ⟨0, by omega, rfl, hown0, Below.refl _ _⟩
  case round =>
    obtain ⟨j, hj, rfl, hr⟩ := hrel
    have HOWN := Lib.hid hr.own
    have HNX := Lib.hid hr.bel
    clear hr hown0
    by_cases hjN : j < 64
    · have ji : (j : Int) < 64 := by omega
      have jn : (0 : Int) ≤ j := Int.natCast_nonneg j
      have HM := Lib.hid (show j + 1 ≤ maxLen by unfold maxLen; omega)
      have HN := Lib.hid (show (j + 1) * 4 ≤ 140737488355328 by omega)
      by_cases hj16 : j < 16
      · have j16 : (j : Int) < 16 := by omega
        have l0 : 4 * (j : Int) < s.size := by have := HS.out; omega
        have l1 : 4 * (j : Int) + 1 < s.size := by have := HS.out; omega
        have l2 : 4 * (j : Int) + 2 < s.size := by have := HS.out; omega
        have l3 : 4 * (j : Int) + 3 < s.size := by have := HS.out; omega
        have k0 : (0 : Int) ≤ 4 * (j : Int) := by omega
        have k1 : (0 : Int) ≤ 4 * (j : Int) + 1 := by omega
        have k2 : (0 : Int) ≤ 4 * (j : Int) + 2 := by omega
        have k3 : (0 : Int) ≤ 4 * (j : Int) + 3 := by omega
        go_wp2_with fail
        refine wp_region_any (by kernel_rfl) ?_
        change wpAny _ _ _ _ _ _ _ (World.drew _)
        refine wpAny_take_at (i := 0) (d := 30) (v := u7) rfl (by kernel_rfl) (by kernel_rfl) (by kernel_rfl) (fun _ _ _ h => h) rfl (Or.inl ⟨by rfl, by intro w; go_simp⟩) ?_
        simp only [Act.put, List.setIfInBounds_toArray, List.set_cons_zero, List.set_cons_succ]
        refine wpAny_quiet_mid (fun w' => ∃ k, w' = wr.drewN k) #[true, true, true, true, true, true, true, true, true, true, true, true, true, true, true, true, true, true, true, true, true, true, true, true, true, true, true, true, true, true, false, false, false] 1 29 3 (by kernel_rfl) (by kernel_rfl) (by kernel_rfl) (by kernel_rfl) rfl ⟨1, rfl⟩ ?_
        simp only [List.take_succ_cons, List.take_zero, List.drop_succ_cons, List.drop_zero]
        repeat (go_big_quiet_step (fail))
        refine wpQuiet_nil ?_
        intro _ hw'
        obtain ⟨kk, hw''⟩ := hw'
        subst hw''
        refine wpAny_tail 30 3 (by kernel_rfl) rfl ?_
        simp only [List.drop_succ_cons, List.drop_zero]
        have hb4 := be_or4 (s[4 * j]'(by have := HS.out; omega)).toNat (s[4 * j + 1]'(by have := HS.out; omega)).toNat (s[4 * j + 2]'(by have := HS.out; omega)).toNat (s[4 * j + 3]'(by have := HS.out; omega)).toNat (UInt8.toNat_lt _) (UInt8.toNat_lt _) (UInt8.toNat_lt _) (UInt8.toNat_lt _)
        rw [hb4]
        clear hb4
        have hV : W.getD j 0 = beN (s[4 * j]'(by have := HS.out; omega)).toNat (s[4 * j + 1]'(by have := HS.out; omega)).toNat (s[4 * j + 2]'(by have := HS.out; omega)).toNat (s[4 * j + 3]'(by have := HS.out; omega)).toNat := by
          rw [HLO.out j hj16, be, ls_get, ls_get, ls_get, ls_get]
        generalize beN _ _ _ _ = V at hV ⊢
        have HV := Lib.hid hV
        clear hV
        have HBQ := Lib.hid (below_drewN HNX.out kk)
        have HOQ := Lib.hid (show (wr.drewN kk).ownsRow _ _ _ _ _ _ from HOWN.out)
        have hs0 : _ ≤ (wr.drewN kk).heap.size := HNX.out.size
        generalize wr.drewN kk = wq at HBQ HOQ hs0 ⊢
        have HA := Lib.hid (HOQ.out.alloc (.cells #[.int .u32 (wv V)] 86 (0, 0)))
        go_wp2_with (at_builtin; refine wpList_append_own _ rfl (.tmp 30) (.tmp 60) 136 rfl _ 86 i0 (.int .u32 0) 1 4 Tryz.underlying136 hi hz0 hz1 hz2 rfl (by decide) _ _ _ rfl HA.out ⟨wq.heap.size, 0, none⟩ 1 1 [.int .u32 (wv V)] rfl rfl (one_cell wq _ _) (one_one _ rfl) HM.out HN.out (le_alloc hs0 _) ?_)
        intro v1 w1 h1 h2 h3
        have HB1 := Lib.hid (below_app HBQ.out _ _ _ _ _ HOQ.out h2)
        have HO1 := Lib.hid h1
        clear h1 h2 h3 hs0
        go_wp2_with fail
        go_roundw
        case rel =>
          refine ⟨j + 1, by omega, by go_num, ?_, HB1.out⟩
          rw [wl_succ, HV.out, wvs_app]
          exact HO1.out
        case measure => simp [intOf]; omega
      · have j16 : ¬ ((j : Int) < 16) := by omega
        obtain ⟨g, cap, hu, _⟩ := HOWN.out.form (by omega)
        have e15 : (j : Int) - 15 = ((j - 15 : Nat) : Int) := by omega
        have e2 : (j : Int) - 2 = ((j - 2 : Nat) : Int) := by omega
        have e16 : (j : Int) - 16 = ((j - 16 : Nat) : Int) := by omega
        have e7 : (j : Int) - 7 = ((j - 7 : Nat) : Int) := by omega
        have c15 := own_word HOWN.out g cap hu (j - 15) (by omega)
        have c2 := own_word HOWN.out g cap hu (j - 2) (by omega)
        have c16 := own_word HOWN.out g cap hu (j - 16) (by omega)
        have c7 := own_word HOWN.out g cap hu (j - 7) (by omega)
        have b15 : ((j - 15 : Nat) : Int) < j := by omega
        have b2 : ((j - 2 : Nat) : Int) < j := by omega
        have b16 : ((j - 16 : Nat) : Int) < j := by omega
        have b7 : ((j - 7 : Nat) : Int) < j := by omega
        have HV0 := HHI.out j (by omega) hjN
        generalize hx : W.getD (j - 15) 0 = x at c15 HV0
        generalize hy : W.getD (j - 2) 0 = y at c2 HV0
        generalize hp : W.getD (j - 7) 0 = p at c7 HV0
        generalize hq : W.getD (j - 16) 0 = q at c16 HV0
        have HV1 := Lib.hid HV0
        clear hx hy hp hq HV0
        obtain ⟨a15, ha15⟩ : ∃ a, a = j - 15 := ⟨_, rfl⟩
        obtain ⟨a2, ha2⟩ : ∃ a, a = j - 2 := ⟨_, rfl⟩
        obtain ⟨a16, ha16⟩ : ∃ a, a = j - 16 := ⟨_, rfl⟩
        obtain ⟨a7, ha7⟩ : ∃ a, a = j - 7 := ⟨_, rfl⟩
        rw [← ha15] at e15 c15 b15
        rw [← ha2] at e2 c2 b2
        rw [← ha16] at e16 c16 b16
        rw [← ha7] at e7 c7 b7
        clear ha15 ha2 ha16 ha7
        have sh3 := w_shr x 3 (wv x / 8) (by unfold wv; omega)
        have sh10 := w_shr y 10 (wv y / 1024) (by unfold wv; omega)
        subst hu
        go_wp2_with fail
        go_quiet (fail)
        go_wp2_with fail
        have d7 : (wr.drewN nq).cell? ⟨g, a7, none⟩ = some (.int .u32 (wv p)) := c7
        have d16 : (wr.drewN nq).cell? ⟨g, a16, none⟩ = some (.int .u32 (wv q)) := c16
        have HNZ := Lib.hid (below_drewN HNX.out nq)
        have HOZ := Lib.hid (show (wr.drewN nq).ownsRow _ _ _ _ _ _ from HOWN.out)
        clear c15 c2 c16 c7
        generalize wr.drewN nq = wz at d7 d16 HNZ HOZ ⊢
        refine wp_region_any (by kernel_rfl) ?_
        change wpAny _ _ _ _ _ _ _ (World.drew _)
        refine wpAny_take_at (i := 0) (d := 72) (v := .slice (some ⟨g, 0, none⟩) j cap) rfl (by kernel_rfl) (by kernel_rfl) (by kernel_rfl) (fun _ _ _ h => h) rfl (Or.inl ⟨by rfl, by intro w; go_simp⟩) ?_
        simp only [Act.put, List.setIfInBounds_toArray, List.set_cons_zero, List.set_cons_succ]
        refine wpAny_quiet_mid (fun w' => ∃ k, w' = wz.drewN k) #[true, true, true, true, true, true, true, true, true, true, true, true, true, true, true, true, true, true, true, true, true, true, true, true, true, true, true, true, true, true, false, false, false] 1 29 3 (by kernel_rfl) (by kernel_rfl) (by kernel_rfl) (by kernel_rfl) rfl ⟨1, rfl⟩ ?_
        simp only [List.take_succ_cons, List.take_zero, List.drop_succ_cons, List.drop_zero]
        repeat (go_big_quiet_step ((first | (go_at_call_of 139 (Value.int IntKind.i64 7); exact Calls.quiet_of (right7 x _)) | (go_at_call_of 139 (Value.int IntKind.i64 18); exact Calls.quiet_of (right18 x _)) | (go_at_call_of 139 (Value.int IntKind.i64 17); exact Calls.quiet_of (right17 y _)) | (go_at_call_of 139 (Value.int IntKind.i64 19); exact Calls.quiet_of (right19 y _)))))
        refine wpQuiet_nil ?_
        intro _ hw'
        obtain ⟨kk, hw''⟩ := hw'
        subst hw''
        refine wpAny_tail 30 3 (by kernel_rfl) rfl ?_
        simp only [List.drop_succ_cons, List.drop_zero]
        have hVe : s0 x + s1 y + p + q = W.getD j 0 := HV1.out
        unfold s0 s1 at hVe
        simp only [w_add]
        rw [hVe]
        generalize hV : W.getD j 0 = V
        have HV := Lib.hid hV
        clear hV hVe sh3 sh10
        have HBQ := Lib.hid (below_drewN HNZ.out kk)
        have HOQ := Lib.hid (show (wz.drewN kk).ownsRow _ _ _ _ _ _ from HOZ.out)
        have hs0 : _ ≤ (wz.drewN kk).heap.size := HNZ.out.size
        generalize wz.drewN kk = wq at HBQ HOQ hs0 ⊢
        have HA := Lib.hid (HOQ.out.alloc (.cells #[.int .u32 (wv V)] 86 (0, 0)))
        go_wp2_with (at_builtin; refine wpList_append_own _ rfl (.tmp 72) (.tmp 102) 136 rfl _ 86 i0 (.int .u32 0) 1 4 Tryz.underlying136 hi hz0 hz1 hz2 rfl (by decide) _ _ _ rfl HA.out ⟨wq.heap.size, 0, none⟩ 1 1 [.int .u32 (wv V)] rfl rfl (one_cell wq _ _) (one_one _ rfl) HM.out HN.out (le_alloc hs0 _) ?_)
        intro v1 w1 h1 h2 h3
        have HB1 := Lib.hid (below_app HBQ.out _ _ _ _ _ HOQ.out h2)
        have HO1 := Lib.hid h1
        clear h1 h2 h3 hs0
        go_wp2_with fail
        go_roundw
        case rel =>
          refine ⟨j + 1, by omega, by go_num, ?_, HB1.out⟩
          rw [wl_succ, HV.out, wvs_app]
          exact HO1.out
        case measure => simp [intOf]; omega
    · have ji : ¬ ((j : Int) < 64) := by omega
      have hj64 : j = 64 := by omega
      obtain ⟨g, cap, hu, hg1, _⟩ := HOWN.out.form (by omega)
      have HW := Lib.hid (fun w' (hb : Below wr.heap.size wr w') i (hi : i < 64) => (hb.cell (p := ⟨g, i, none⟩) (World.block_lt_of_cell? wr _ (own_word HOWN.out g cap hu i (by omega)))).trans (own_word HOWN.out g cap hu i (by omega)))
      subst hu
      have HB0 := Lib.hid HNX.out
      rw [hj64]
      clear hj64 hjN HOWN HNX hg1
      have HC := Lib.hid (fun w' (hb : Below wr.heap.size wr w') => HH.out w' (HB0.out.trans (hb.mono HB0.out.size)))
      have HCK := Lib.hid (fun w' (hb : Below wr.heap.size wr w') => HK.out w' (HB0.out.trans (hb.mono HB0.out.size)))
      have c0 := HC.out wr (Below.refl _ _) 0 (by decide)
      have c1 := HC.out wr (Below.refl _ _) 1 (by decide)
      have c2 := HC.out wr (Below.refl _ _) 2 (by decide)
      have c3 := HC.out wr (Below.refl _ _) 3 (by decide)
      have c4 := HC.out wr (Below.refl _ _) 4 (by decide)
      have c5 := HC.out wr (Below.refl _ _) 5 (by decide)
      have c6 := HC.out wr (Below.refl _ _) 6 (by decide)
      have c7 := HC.out wr (Below.refl _ _) 7 (by decide)
      generalize ha : st.getD 0 0 = ia at c0
      generalize hb : st.getD 1 0 = ib at c1
      generalize hc : st.getD 2 0 = ic at c2
      generalize hd : st.getD 3 0 = idd at c3
      generalize he : st.getD 4 0 = ie at c4
      generalize hf : st.getD 5 0 = iff at c5
      generalize hg : st.getD 6 0 = ig at c6
      generalize hh : st.getD 7 0 = ih at c7
      have HV := Lib.hid (show ofA st = ⟨ia, ib, ic, idd, ie, iff, ig, ih⟩ by rw [ofA, ha, hb, hc, hd, he, hf, hg, hh])
      have HA := Lib.hid (fun v => show addA st v = #[ia + v.a, ib + v.b, ic + v.c, idd + v.d, ie + v.e, iff + v.f, ig + v.g, ih + v.h] by rw [addA, ha, hb, hc, hd, he, hf, hg, hh])
      have HCC := Lib.hid (fun w' (hb' : Below wr.heap.size wr w') => (⟨by rw [← ha]; exact HC.out w' hb' 0 (by decide), by rw [← hb]; exact HC.out w' hb' 1 (by decide), by rw [← hc]; exact HC.out w' hb' 2 (by decide), by rw [← hd]; exact HC.out w' hb' 3 (by decide), by rw [← he]; exact HC.out w' hb' 4 (by decide), by rw [← hf]; exact HC.out w' hb' 5 (by decide), by rw [← hg]; exact HC.out w' hb' 6 (by decide), by rw [← hh]; exact HC.out w' hb' 7 (by decide)⟩ :
        w'.cell? ⟨gh, 0, none⟩ = some (.int .u32 (wv ia)) ∧ w'.cell? ⟨gh, 1, none⟩ = some (.int .u32 (wv ib)) ∧ w'.cell? ⟨gh, 2, none⟩ = some (.int .u32 (wv ic)) ∧ w'.cell? ⟨gh, 3, none⟩ = some (.int .u32 (wv idd)) ∧ w'.cell? ⟨gh, 4, none⟩ = some (.int .u32 (wv ie)) ∧ w'.cell? ⟨gh, 5, none⟩ = some (.int .u32 (wv iff)) ∧ w'.cell? ⟨gh, 6, none⟩ = some (.int .u32 (wv ig)) ∧ w'.cell? ⟨gh, 7, none⟩ = some (.int .u32 (wv ih))))
      clear ha hb hc hd he hf hg hh
      go_wp2_with fail
      go_quiet (fail)
      go_wp2_with fail
      have HBZ := Lib.hid (below_drewN (Below.refl wr.heap.size wr) nq)
      generalize wr.drewN nq = wz at HBZ ⊢
      go_loopw [11, 12, 13, 14, 15, 16, 17, 18, 19] (fun va vb vc vd ve vf vg vh i wr' => ∃ (j : Nat) (a b c d e f g h : W32), j ≤ 64 ∧ i = .int .i64 j ∧ rds W ⟨ia, ib, ic, idd, ie, iff, ig, ih⟩ j = ⟨a, b, c, d, e, f, g, h⟩ ∧ va = .int .u32 (wv a) ∧ vb = .int .u32 (wv b) ∧ vc = .int .u32 (wv c) ∧ vd = .int .u32 (wv d) ∧ ve = .int .u32 (wv e) ∧ vf = .int .u32 (wv f) ∧ vg = .int .u32 (wv g) ∧ vh = .int .u32 (wv h) ∧ Below wr.heap.size wr wr') (fun _ _ _ _ _ _ _ _ i _ => 64 - (intOf i).toNat)
      case atStart => exact ⟨0, ia, ib, ic, idd, ie, iff, ig, ih, by omega, rfl, rfl, rfl, rfl, rfl, rfl, rfl, rfl, rfl, rfl, HBZ.out⟩
      case round =>
        obtain ⟨j, a, b, c, d, e, f, gg, h, hj, rfl, hrd, rfl, rfl, rfl, rfl, rfl, rfl, rfl, rfl, hbl⟩ := hrel
        have HRD := Lib.hid hrd
        have HBL := Lib.hid hbl
        clear hrd hbl c0 c1 c2 c3 c4 c5 c6 c7
        by_cases hjN : j < 64
        · have ji : (j : Int) < 64 := by omega
          have jn : (0 : Int) ≤ j := Int.natCast_nonneg j
          have ck := HCK.out _ HBL.out j hjN
          have cw := HW.out _ HBL.out j hjN
          generalize hk : KT.getD j 0 = kj at ck
          generalize hx : W.getD j 0 = xj at cw
          have HKJ := Lib.hid hk
          have HXJ := Lib.hid hx
          clear hk hx
          go_wp2_with fail
          go_quiet ((first | (go_at_call_of 139 (Value.int IntKind.i64 6); exact Calls.quiet_of (right6 e _)) | (go_at_call_of 139 (Value.int IntKind.i64 11); exact Calls.quiet_of (right11 e _)) | (go_at_call_of 139 (Value.int IntKind.i64 25); exact Calls.quiet_of (right25 e _))))
          go_wp2_with fail
          refine (right2 a _).mono ?_
          rintro _ _ ⟨rfl, k1, rfl⟩
          go_wp2_with fail
          refine (right13 a _).mono ?_
          rintro _ _ ⟨rfl, k2, rfl⟩
          go_wp2_with fail
          refine (right22 a _).mono ?_
          rintro _ _ ⟨rfl, k3, rfl⟩
          go_wp2_with fail
          go_roundw
          case rel =>
            refine ⟨j + 1, _, a, b, c, _, e, f, gg, by omega, by go_num, ?_, congrArg _ (w_add _ _), rfl, rfl, rfl, congrArg _ (w_add _ _), rfl, rfl, rfl, below_drewN HBL.out _⟩
            rw [rds, HRD.out, HKJ.out, HXJ.out, w_ch, w_mj]
            rfl
          case measure => simp [intOf]; omega
        · have ji : ¬ ((j : Int) < 64) := by omega
          have hj64 : j = 64 := by omega
          have HFIN := Lib.hid (show blk8 st (be s) = #[ia + a, ib + b, ic + c, idd + d, ie + e, iff + f, ig + gg, ih + h] by
            rw [HBK.out, HV.out, HA.out, ← hj64, HRD.out])
          obtain ⟨c0, c1, c2, c3, c4, c5, c6, c7⟩ := HCC.out _ HBL.out
          clear hj64 hjN HRD
          go_wp2_with fail
          refine wp_region_draws_tail 40 (by kernel_rfl) (by kernel_rfl) ?_
          simp only [List.take_succ_cons, List.take_zero, List.drop_succ_cons, List.drop_zero]
          repeat (go_big_quiet_step (fail))
          refine wpQuiet_nil ?_
          intro _ hw'
          obtain ⟨kk, hw''⟩ := hw'
          subst hw''
          have HQ := Lib.hid (HB0.out.trans ((below_drewN HBL.out kk).mono HB0.out.size))
          generalize wr.drewN kk = wq at HQ ⊢
          simp only [w_add]
          go_wp2_with fail
          go_ret
          refine ⟨below_alloc HQ.out _, _, rfl, HQ.out.size, ?_⟩
          rw [HFIN.out, show rowW #[ia + a, ib + b, ic + c, idd + d, ie + e, iff + f, ig + gg, ih + h] = #[.int .u32 (wv (ia + a)), .int .u32 (wv (ib + b)), .int .u32 (wv (ic + c)), .int .u32 (wv (idd + d)), .int .u32 (wv (ie + e)), .int .u32 (wv (iff + f)), .int .u32 (wv (ig + gg)), .int .u32 (wv (ih + h))] by simp [rowW]]
          exact (MapKept.heap_alloc wq _).1
end Go.Proofs.YtfckjilhkdlpfaaGreatDoor

namespace Go.Proofs.YtfckjilhkdlpfaaGreatDoor
open Go.RowKit MS
set_option maxRecDepth 100000 in
theorem rounds_any (w : World) :
    Calls Tryz.prog 128 #[] w fun e w' => e = .returned (.slice (some ⟨w.heap.size, 0, none⟩) 64 64) ∧ w' = w.alloc (.cells (rowW KT) 86 (0, 0)) := by
  go_enter Tryz.func128, Tryz.ntmps128
  go_wp2_with fail
  go_ret
  exact ⟨rfl, by kernel_rfl⟩

end Go.Proofs.YtfckjilhkdlpfaaGreatDoor

namespace Go.Proofs.YtfckjilhkdlpfaaGreatDoor
open Go.RowKit MS
set_option maxRecDepth 1000000 in
theorem state_any (w : World) :
    Calls Tryz.prog 129 #[] w fun e w' => e = .returned (.slice (some ⟨w.heap.size, 0, none⟩) 8 8) ∧ w' = w.alloc (.cells (rowW IV) 86 (0, 0)) := by
  go_enter Tryz.func129, Tryz.ntmps129
  go_wp2_with fail
  go_ret
  exact ⟨rfl, by kernel_rfl⟩

/-- The list behind the converted text, after j noughts. -/
def padJ (s : ByteArray) (j : Nat) : List UInt8 := ls s ++ 128 :: List.replicate j 0
theorem length_padJ (s : ByteArray) (j : Nat) : (padJ s j).length = s.size + 1 + j := by simp [padJ, length_ls]; omega
theorem cell_new (w : World) (x : Value) (T : TypeId) : (w.alloc (.cells #[x] T (0, 0))).cell? ⟨w.heap.size, 0, none⟩ = some x := cell_of_row _ _ _ _ _ _ (MapKept.heap_alloc _ _).1
theorem padJ_succ (s : ByteArray) (j : Nat) : padJ s (j + 1) = padJ s j ++ [0] := by
  rw [padJ, padJ, List.replicate_succ']
  simp
structure PaSt (w0 : World) (l : List UInt8) (v : Value) (w : World) : Prop where
  own : ownsF w w0.heap.size 5 v l.length (vls l)
  bel : Below w0.heap.size w0 w
theorem PaSt.app {w0 w w' : World} {l : List UInt8} {v v' : Value} {x : UInt8} {o : Obj} (h : PaSt w0 l v w) (h1 : ownsF w' w0.heap.size 5 v' (l.length + 1) (vls l ++ [valB x])) (h2 : (w.alloc o).grownBy w' v.ownBlock) : PaSt w0 (l ++ [x]) v' w' :=
  ⟨by rw [vls_app, List.length_append]; exact h1, (below_alloc h.bel o).grown h2 (le_alloc h.bel.size _) (fun m hm => (h.own.lt m hm).1)⟩
theorem be8_snoc (C j : Nat) (hj : j < 8) : (be8 C).take (j + 1) = (be8 C).take j ++ [UInt8.ofNat (C / 2 ^ (8 * (7 - j)) % 256)] := by
  have hj' : j = 0 ∨ j = 1 ∨ j = 2 ∨ j = 3 ∨ j = 4 ∨ j = 5 ∨ j = 6 ∨ j = 7 := by omega
  rcases hj' with rfl | rfl | rfl | rfl | rfl | rfl | rfl | rfl <;> rfl
theorem past_be {w wr w2 : World} {L0 : List UInt8} {C j n : Nat} {v v2 x : Value} {o : Obj} (hP : PaSt w (L0 ++ (be8 C).take j) v wr) (hj : j < 8) (hn : (L0 ++ (be8 C).take j).length = n)
    (h1 : ownsF w2 w.heap.size 5 v2 (n + 1) (vls (L0 ++ (be8 C).take j) ++ [x])) (h2 : (wr.alloc o).grownBy w2 v.ownBlock) (hx : x = .int .u8 ((C / 2 ^ (8 * (7 - j)) % 256 : Nat) : Int)) : PaSt w (L0 ++ (be8 C).take (j + 1)) v2 w2 := by
  rw [be8_snoc C j hj, ← List.append_assoc]
  refine PaSt.app hP (o := o) ?_ h2
  rw [hn]
  rw [hx] at h1
  have e : valB (UInt8.ofNat (C / 2 ^ (8 * (7 - j)) % 256)) = .int .u8 ((C / 2 ^ (8 * (7 - j)) % 256 : Nat) : Int) := by
    unfold valB
    rw [UInt8.toNat_ofNat', Nat.mod_mod]
  rw [e]
  exact h1
theorem past_bytes (w : World) (s : ByteArray) (hs : s.size ≤ maxLen) : PaSt w (ls s) (.slice (some ⟨w.heap.size, 0, none⟩) s.size (grownCap w s.size 0 5)) (Lib.bytesWorld w 5 s) := by
  refine ⟨?_, below_bytes w _ s⟩
  have := ownsF_bytes w w.heap.size 5 s (Nat.le_refl _) hs
  rw [length_ls]
  exact this

theorem size_hs8 (bw : Nat → Nat → W32) (m : Nat) : (hs bw IV m).size = 8 := by
  cases m with
  | zero => rfl
  | succ m => rw [hs]; exact size_blk8 _ _
/-- What stays through the third loop: the list, the table. -/
structure RSSt (w0 : World) (g cap K : Nat) (P : List UInt8) (gk : Nat) (w : World) : Prop where
  own : ownsF w w0.heap.size 5 (.slice (some ⟨g, 0, none⟩) (64 * K) cap) (64 * K) (vls P)
  kt : w.heap[gk]? = some (.cells (rowW KT) 86 (0, 0))
  bel : Below w0.heap.size w0 w
theorem RSSt.on {w0 w w' : World} {g cap K : Nat} {P : List UInt8} {gk : Nat} (h : RSSt w0 g cap K P gk w) (hb : Below w.heap.size w w') : RSSt w0 g cap K P gk w' :=
  ⟨h.own.on hb, (hb.block _ (Array.getElem?_eq_some_iff.1 h.kt).1).trans h.kt, h.bel.trans (hb.mono h.bel.size)⟩
set_option maxRecDepth 1000000 in
set_option maxHeartbeats 2000000 in
theorem rsum_any (s : ByteArray) (w : World) (hsz : s.size ≤ 100000) :
    Calls Tryz.prog 96 #[.string s] w fun e w' => e = .returned (.string (sumB s)) ∧ Below w.heap.size w w' := by
  obtain ⟨i8, hj0, hy0, hy1, hy2⟩ : ∃ i, Tryz.prog.info? 5 = some i ∧ i.zero = some (.int .u8 0) ∧ i.size = 1 ∧ i.bytes = 1 := ⟨_, rfl, rfl, rfl, rfl⟩
  have sb : (s.size : Int) ≤ 100000 := by omega
  have sn : (0 : Int) ≤ s.size := by omega
  have HSZ := Lib.hid hsz
  have P0 := past_bytes w s (by unfold maxLen; omega)
  have HP0 := Lib.hid P0
  have HA0 := Lib.hid (show ownsF ((Lib.bytesWorld w 5 s).alloc (.cells #[.int .u8 128] 5 (0, 0))) w.heap.size 5 (.slice (some ⟨w.heap.size, 0, none⟩) s.size (grownCap w s.size 0 5)) s.size (vls (ls s)) from by have h9 := P0.own.alloc (.cells #[.int .u8 128] 5 (0, 0)); rwa [length_ls] at h9)
  have HN0 := Lib.hid (show s.size + 1 ≤ 140737488355328 by omega)
  have HC0 := Lib.hid (show ((Lib.bytesWorld w 5 s).alloc (.cells #[.int .u8 128] 5 (0, 0))).cell? ⟨(Lib.bytesWorld w 5 s).heap.size, 0, none⟩ = some (.int .u8 128) from cell_of_row _ _ _ _ _ _ (MapKept.heap_alloc _ _).1)
  have HL0 := Lib.hid (le_alloc (B := w.heap.size) P0.bel.size (.cells #[.int .u8 128] 5 (0, 0)))
  clear hsz P0
  go_enter Tryz.func96, Tryz.ntmps96
  go_wp2_with (first
    | (refine wpList_conv_f rfl (.tmp 14) 9 83 5 rfl s rfl Tryz.underlying9 Tryz.underlying83 Tryz.underlying5 ?_)
    | (at_builtin; refine wpList_append_f _ rfl (.tmp 15) (.tmp 16) 83 rfl w.heap.size 5 i8 (.int .u8 0) Tryz.underlying83 hj0 hy0 hy1 hy2 rfl (.slice (some ⟨w.heap.size, 0, none⟩) s.size (grownCap w s.size 0 5)) s.size (vls (ls s)) rfl HA0.out ⟨(Lib.bytesWorld w 5 s).heap.size, 0, none⟩ 1 (.int .u8 128) rfl HC0.out rfl HN0.out HL0.out ?_))
  intro v1 w1 h1 h2
  have HP1 := Lib.hid (show PaSt w (padJ s 0) v1 w1 from HP0.out.app (x := 128) (by rw [length_ls]; exact h1) h2)
  clear h1 h2 HA0 HN0 HC0 HL0 HP0
  have HZ := Lib.hid (show padZ s.size = (119 - s.size % 64) % 64 from rfl)
  go_wp2_with fail
  go_loopw [4] (fun v wr => ∃ j : Nat, j ≤ padZ s.size ∧ PaSt w (padJ s j) v wr) (fun v _ => 1000000 - (sliceLen v))
  case atStart => exact ⟨0, Nat.zero_le _, HP1.out⟩
  case round =>
    obtain ⟨j, hj, hp⟩ := hrel
    obtain ⟨g, cap, rfl, hnc, hcm, hgl⟩ := hp.own.form
    have HP := Lib.hid hp
    have HJ := Lib.hid hj
    have hle := length_padJ s j
    have HLE := Lib.hid hle
    have hz : padZ s.size < 64 := by unfold padZ; omega
    have hn9 : (padJ s j).length ≤ 100064 := by have := HSZ.out; omega
    generalize hn : (padJ s j).length = n at hle hn9 hnc ⊢
    have HNN := Lib.hid hn
    have HHL := Lib.hid hle
    have hnI : (n : Int) ≤ 100064 := by omega
    have hn0 : (0 : Int) ≤ n := by omega
    clear hp hj hn hle
    by_cases h56 : n % 64 = 56
    · have t1 : ((n : Int) % 64 != 56) = false := by simp; omega
      have hjz : j = padZ s.size := by have := HZ.out; have := HHL.out; have := HJ.out; omega
      have hp3 : PaSt w (padJ s (padZ s.size) ++ (be8 (s.size * 8)).take 0) (.slice (some ⟨g, 0, none⟩) n cap) wr := by
        rw [List.take_zero, List.append_nil, ← hjz, ← HNN.out]; exact HP.out
      have HP3 := Lib.hid hp3
      have HLZ := Lib.hid (length_padJ s (padZ s.size))
      have HPAD := Lib.hid (show padL s = padJ s (padZ s.size) ++ be8 (s.size * 8) from rfl)
      clear hp3 hjz HP HJ HLE HNN HHL h56 hn9 HP1
      generalize padJ s (padZ s.size) = L0 at HP3 HLZ HPAD
      go_wp2_with fail
      clear t1 hnI hn0 hnc hgl
      go_loopw [4, 5] (fun v i wr => ∃ j : Nat, j ≤ 8 ∧ i = .int .i64 (7 - (j : Int)) ∧ PaSt w (L0 ++ (be8 (s.size * 8)).take j) v wr) (fun _ i _ => (intOf i + 1).toNat)
      case atStart => exact ⟨0, Nat.zero_le _, rfl, HP3.out⟩
      case round =>
        obtain ⟨j, hj, rfl, hp⟩ := hrel
        obtain ⟨g, cap, rfl, hnc, hcm, hgl⟩ := hp.own.form
        have HP := Lib.hid hp
        by_cases hj8 : j < 8
        · have HLN := Lib.hid (show (L0 ++ (be8 (s.size * 8)).take j).length ≤ 100080 from by
            rw [List.length_append, List.length_take, HLZ.out, show (be8 (s.size * 8)).length = 8 from rfl]
            have := HSZ.out; have := HZ.out; omega)
          have HPN := Lib.hid (fun v2 w2 x o n (hn : (L0 ++ (be8 (s.size * 8)).take j).length = n) (h1 : ownsF w2 w.heap.size 5 v2 (n + 1) (vls (L0 ++ (be8 (s.size * 8)).take j) ++ [x])) (h2 : (wr.alloc o).grownBy w2 (Value.slice (some ⟨g, 0, none⟩) n cap).ownBlock) (hx : x = .int .u8 ((s.size * 8 / 2 ^ (8 * (7 - j)) % 256 : Nat) : Int)) => past_be hp hj8 hn h1 h2 hx)
          have HBC := Lib.hid (hp.own.alloc)
          have HBL := Lib.hid hp.bel
          clear hp
          generalize hL : L0 ++ (be8 (s.size * 8)).take j = L at *
          have HL := Lib.hid hL
          generalize hn : L.length = n at *
          have HNN := Lib.hid hn
          have hj' : j = 0 ∨ j = 1 ∨ j = 2 ∨ j = 3 ∨ j = 4 ∨ j = 5 ∨ j = 6 ∨ j = 7 := by omega
          have hnI : (n : Int) ≤ 100080 := by have := HLN.out; omega
          have hn0 : (0 : Int) ≤ n := by omega
          have HN1 := Lib.hid (show n + 1 ≤ 140737488355328 by omega)
          clear hj hj8 HP3 hn hL
          rcases hj' with rfl | rfl | rfl | rfl | rfl | rfl | rfl | rfl
          all_goals
            go_wp2_with (at_builtin; refine wpList_append_f _ rfl (.tmp 29) (.tmp 37) 83 rfl w.heap.size 5 i8 (.int .u8 0) Tryz.underlying83 hj0 hy0 hy1 hy2 rfl (.slice (some ⟨g, 0, none⟩) n cap) n (vls L) rfl (HBC.out _) ⟨wr.heap.size, 0, none⟩ 1 _ rfl (cell_new _ _ _) rfl HN1.out (le_alloc HBL.out.size _) ?_)
            intro v2 w2 h1 h2
            have HP2 := Lib.hid (HPN.out v2 w2 _ _ n rfl h1 h2 (by first | rfl | (congr 1; omega)))
            clear h1 h2
            go_wp2_with fail
            go_roundw
            case rel => exact ⟨_, by decide, by go_num, HP2.out⟩
            case measure => simp [intOf]
        · have hq0 : ¬ ((7 - (j : Int)) ≥ 0) := by omega
          have hj8' : j = 8 := by omega
          have hpp : PaSt w (padL s) (.slice (some ⟨g, 0, none⟩) (L0 ++ (be8 (s.size * 8)).take j).length cap) wr := by
            rw [HPAD.out]; rw [hj8'] at hp ⊢; exact hp
          have hll : (L0 ++ (be8 (s.size * 8)).take j).length = (padL s).length := by
            rw [HPAD.out, hj8']; rfl
          obtain ⟨K, hK⟩ : ∃ K, (padL s).length = 64 * K := ⟨(padL s).length / 64, by
            have := size_padB_mod s
            rw [padB, size_bs] at this
            omega⟩
          have hfin : fin s = hs (bwT (padB s)) IV K := by
            rw [← fin_pad s]
            congr 1
            rw [padB, size_bs, hK]; omega
          have hK9 : K ≤ 1600 := by
            have := HZ.out; have := HSZ.out; have := HLZ.out
            have h8 : (padL s).length = L0.length + 8 := by rw [HPAD.out, List.length_append]; rfl
            omega
          rw [hll, hK] at hpp ⊢
          rw [hll, hK] at hnc
          have hown := hpp.own
          rw [hK] at hown
          have HO := Lib.hid hown
          have HB := Lib.hid hpp.bel
          have HF := Lib.hid hfin
          have HKL := Lib.hid hK
          have HBW := Lib.hid (show ∀ m, be (bs (((padL s).drop (64 * m)).take 64)) = bwT (padB s) m from fun m => by
            rw [bwT]
            congr 1
            apply ls_inj
            rw [ls_extract, padB, ls_bs, ls_bs, show 64 * m + 64 - 64 * m = 64 by omega])
          have HSM := Lib.hid (show sumB s = bs (dg (fin s) 8) from rfl)
          generalize padL s = P at HO HKL HBW
          generalize bwT (padB s) = bw at HF HBW
          generalize fin s = F at HF HSM
          clear hll hpp hK hfin hj8' hj HP hown hp HP3 HLZ HPAD HZ HSZ
          go_wp2_with fail
          refine (rounds_any _).mono ?_
          rintro e w1 ⟨rfl, rfl⟩
          go_wp2_with fail
          refine (state_any _).mono ?_
          rintro e w2 ⟨rfl, rfl⟩
          go_wp2_with fail
          have hW2 : RSSt w g cap K P wr.heap.size ((wr.alloc (.cells (rowW KT) 86 (0, 0))).alloc (.cells (rowW IV) 86 (0, 0))) :=
            ⟨(HO.out.alloc _).alloc _, ((MapKept.heap_alloc _ _).2 _ (by rw [World.size_alloc]; omega)).trans (MapKept.heap_alloc wr _).1, below_alloc (below_alloc HB.out _) _⟩
          have hh0 : ((wr.alloc (.cells (rowW KT) 86 (0, 0))).alloc (.cells (rowW IV) 86 (0, 0))).heap[wr.heap.size + 1]? = some (.cells (rowW IV) 86 (0, 0)) := by
            have h9 := (MapKept.heap_alloc (wr.alloc (.cells (rowW KT) 86 (0, 0))) (.cells (rowW IV) 86 (0, 0))).1
            rwa [World.size_alloc] at h9
          generalize wr.heap.size + 1 = gh0 at hh0 ⊢
          generalize wr.heap.size = gk at hW2 hgl ⊢
          generalize (wr.alloc (.cells (rowW KT) 86 (0, 0))).alloc (.cells (rowW IV) 86 (0, 0)) = w2 at hW2 hh0 ⊢
          have HW2 := Lib.hid hW2
          have HH0 := Lib.hid hh0
          clear hW2 hh0 HO HB hgl hq0 hj8
          go_loopw [7, 8] (fun h i wr => ∃ m gh : Nat, m ≤ K ∧ i = .int .i64 (64 * m : Nat) ∧ h = .slice (some ⟨gh, 0, none⟩) 8 8 ∧ wr.heap[gh]? = some (.cells (rowW (hs bw IV m)) 86 (0, 0)) ∧ RSSt w g cap K P gk wr) (fun _ i _ => 200000 - (intOf i).toNat)
          case atStart => exact ⟨0, gh0, Nat.zero_le _, rfl, rfl, HH0.out, HW2.out⟩
          case round =>
            obtain ⟨m, gh, hm, rfl, rfl, hgh, hst⟩ := hrel
            have HST := Lib.hid hst
            have HGH := Lib.hid hgh
            have HM := Lib.hid hm
            clear hst hgh hm HW2 HH0
            by_cases hlt : m < K
            · have m1 : 64 * (m : Int) < 64 * K := by omega
              have m2 : 64 * (m : Int) + 64 ≤ cap := by omega
              have m0 : (0 : Int) ≤ 64 * (m : Int) := by omega
              have m3 : 64 * (m : Int) + 64 ≤ 200000 := by omega
              have HLT := Lib.hid hlt
              obtain ⟨a, ha⟩ : ∃ a, a = 64 * m := ⟨_, rfl⟩
              have a1 : (a : Int) < ((64 * K : Nat) : Int) := by omega
              have a2 : (a : Int) + 64 ≤ cap := by omega
              have a0 : (0 : Int) ≤ a := by omega
              have a3 : (a : Int) + 64 ≤ 200000 := by omega
              have HA := Lib.hid ha
              have hcv := ownsF_conv (P := Tryz.prog) wr w.heap.size 83 9 5 Tryz.underlying83 Tryz.underlying5 Tryz.underlying9 (l := P) HST.out.own a 64 (cap - a) (by omega)
              rw [← ha]
              have HNC := Lib.hid hnc
              generalize hN9 : 64 * K = N at a1 ⊢
              clear m1 m2 m0 m3 hlt ha hnc hcm hN9 hK9 sb sn hz
              have RB := Lib.hid (fun ck ch => rsha_block gk gh ck ch (hs bw IV m) (bs ((P.drop a).take 64)) wr (by
                rw [size_bs, List.length_take, List.length_drop]
                have h7 := HST.out.own.1
                simp only [vls, List.length_map] at h7
                have := HLT.out; have := HA.out
                omega) (fun i hi => by rw [cell_of_row _ _ i _ _ _ HST.out.kt, rowW_get KT i hi]) (fun i hi => by rw [cell_of_row _ _ i _ _ _ HGH.out, rowW_get _ i (by rw [size_hs8]; exact hi)]))
              go_wp2_with fail
              refine (RB.out 64 8).mono ?_
              rintro e w4 ⟨hb4, g4, rfl, hg4, hr4⟩
              have HS4 := Lib.hid (HST.out.on hb4)
              have HR4 := Lib.hid (show w4.heap[g4]? = some (.cells (rowW (hs bw IV (m + 1))) 86 (0, 0)) from by
                rw [hs, ← HBW.out m, ← HA.out]
                exact hr4)
              clear hb4 hg4 hr4 RB hcv
              go_wp2_with fail
              go_roundw
              case rel => exact ⟨m + 1, g4, HLT.out, by have := HA.out; go_num, rfl, HR4.out, HS4.out⟩
              case measure => simp [intOf]; omega
            · have m1 : ¬ (64 * (m : Int) < 64 * K) := by omega
              have hmK : m = K := by have := HM.out; omega
              have hrow := HGH.out
              rw [hmK, ← HF.out] at hrow
              have HR := Lib.hid hrow
              have HB := Lib.hid HST.out.bel
              have HFS := Lib.hid (show F.size = 8 by rw [HF.out]; exact size_hs8 _ _)
              have HCF := Lib.hid (fun w' (hb' : Below wr.heap.size wr w') (i : Nat) (hi : i < 8) => show w'.cell? ⟨gh, i, none⟩ = some (.int .u32 (wv (F.getD i 0))) from by
                have h1 := (hb'.block _ (Array.getElem?_eq_some_iff.1 HR.out).1).trans HR.out
                rw [cell_of_row _ _ i _ _ _ h1, rowW_get F i (by rw [HFS.out]; exact hi)])
              have HGL := Lib.hid (show gh < wr.heap.size from (Array.getElem?_eq_some_iff.1 HR.out).1)
              have m2 : ¬ (((64 * m : Nat) : Int) < ((64 * K : Nat) : Int)) := by omega
              generalize 64 * K = N at m2 ⊢
              generalize 64 * m = mm at m2 ⊢
              clear hmK hrow HST HGH hlt m1 hK9 hnc hcm hz sb sn
              go_wp2_with fail
              obtain ⟨wo, rfl⟩ : ∃ wo : World, wo = wr := ⟨_, rfl⟩
              go_loopw [9, 58] (fun v i wr => ∃ j : Nat, j ≤ 8 ∧ i = .int .i64 j ∧ wr.ownsRow wo.heap.size 5 1 v (4 * j) (vls (dg F j)) ∧ Below wo.heap.size wo wr) (fun _ i _ => 8 - (intOf i).toNat)
              case atStart => exact ⟨0, by omega, rfl, World.ownsRow_nil _ _ _ _, Below.refl _ _⟩
              case round =>
                obtain ⟨j, hj, rfl, hown, hnx⟩ := hrel
                have HOWN := Lib.hid hown
                have HNX := Lib.hid hnx
                clear hown hnx
                by_cases hjN : j < 8
                · have ji : (j : Int) < 8 := by omega
                  have jn : (0 : Int) ≤ j := Int.natCast_nonneg j
                  have cx := HCF.out _ HNX.out j hjN
                  generalize hx : F.getD j 0 = x at cx
                  have HX := Lib.hid hx
                  have HJ8 := Lib.hid hjN
                  have HM := Lib.hid (show 4 * j + 4 ≤ maxLen by unfold maxLen; omega)
                  have HN := Lib.hid (show (4 * j + 4) * 1 ≤ 140737488355328 by omega)
                  clear hx hjN hj
                  have HA0 := Lib.hid (HOWN.out.alloc (.cells #[.int .u8 (wv x / 16777216 % 256)] 5 (0, 0)))
                  have HS0 := Lib.hid (show wo.heap.size ≤ wr.heap.size from HNX.out.size)
                  go_wp2_with (at_builtin; refine wpList_append_own _ rfl (.tmp 62) (.tmp 66) 83 rfl _ 5 i8 (.int .u8 0) 1 1 Tryz.underlying83 hj0 hy0 hy1 hy2 rfl (by decide) _ _ _ rfl HA0.out ⟨wr.heap.size, 0, none⟩ 1 1 [.int .u8 (wv x / 16777216 % 256)] rfl rfl (one_cell wr _ _) (one_one _ rfl) (Nat.le_trans (by omega) HM.out) (Nat.le_trans (by omega) HN.out) (le_alloc HS0.out _) ?_)
                  intro v5 w5 h1 h2 h3
                  have HB1 := Lib.hid (below_app HNX.out _ _ _ _ _ HOWN.out h2)
                  have HO1 := Lib.hid h1
                  clear h1 h2 h3
                  have HA1 := Lib.hid (HO1.out.alloc (.cells #[.int .u8 (wv x / 65536 % 256)] 5 (0, 0)))
                  have HS1 := Lib.hid (show wo.heap.size ≤ w5.heap.size from HB1.out.size)
                  go_wp2_with (at_builtin; refine wpList_append_own _ rfl (.tmp 67) (.tmp 71) 83 rfl _ 5 i8 (.int .u8 0) 1 1 Tryz.underlying83 hj0 hy0 hy1 hy2 rfl (by decide) _ _ _ rfl HA1.out ⟨w5.heap.size, 0, none⟩ 1 1 [.int .u8 (wv x / 65536 % 256)] rfl rfl (one_cell w5 _ _) (one_one _ rfl) (Nat.le_trans (by omega) HM.out) (Nat.le_trans (by omega) HN.out) (le_alloc HS1.out _) ?_)
                  intro v6 w6 h1 h2 h3
                  have HB2 := Lib.hid (below_app HB1.out _ _ _ _ _ HO1.out h2)
                  have HO2 := Lib.hid h1
                  clear h1 h2 h3
                  have HA2 := Lib.hid (HO2.out.alloc (.cells #[.int .u8 (wv x / 256 % 256)] 5 (0, 0)))
                  have HS2 := Lib.hid (show wo.heap.size ≤ w6.heap.size from HB2.out.size)
                  go_wp2_with (at_builtin; refine wpList_append_own _ rfl (.tmp 72) (.tmp 76) 83 rfl _ 5 i8 (.int .u8 0) 1 1 Tryz.underlying83 hj0 hy0 hy1 hy2 rfl (by decide) _ _ _ rfl HA2.out ⟨w6.heap.size, 0, none⟩ 1 1 [.int .u8 (wv x / 256 % 256)] rfl rfl (one_cell w6 _ _) (one_one _ rfl) (Nat.le_trans (by omega) HM.out) (Nat.le_trans (by omega) HN.out) (le_alloc HS2.out _) ?_)
                  intro v7 w7 h1 h2 h3
                  have HB3 := Lib.hid (below_app HB2.out _ _ _ _ _ HO2.out h2)
                  have HO3 := Lib.hid h1
                  clear h1 h2 h3
                  have HA3 := Lib.hid (HO3.out.alloc (.cells #[.int .u8 (wv x % 256)] 5 (0, 0)))
                  have HS3 := Lib.hid (show wo.heap.size ≤ w7.heap.size from HB3.out.size)
                  go_wp2_with (at_builtin; refine wpList_append_own _ rfl (.tmp 77) (.tmp 80) 83 rfl _ 5 i8 (.int .u8 0) 1 1 Tryz.underlying83 hj0 hy0 hy1 hy2 rfl (by decide) _ _ _ rfl HA3.out ⟨w7.heap.size, 0, none⟩ 1 1 [.int .u8 (wv x % 256)] rfl rfl (one_cell w7 _ _) (one_one _ rfl) (Nat.le_trans (by omega) HM.out) (Nat.le_trans (by omega) HN.out) (le_alloc HS3.out _) ?_)
                  intro v8 w8 h1 h2 h3
                  have HB4 := Lib.hid (below_app HB3.out _ _ _ _ _ HO3.out h2)
                  have HO4 := Lib.hid h1
                  clear h1 h2 h3
                  go_wp2_with fail
                  go_roundw
                  case rel =>
                    refine ⟨j + 1, HJ8.out, by go_num, ?_, HB4.out⟩
                    have := HO4.out
                    rw [dg, HX.out, vls, List.map_append, show 4 * (j + 1) = 4 * j + 4 by omega]
                    rw [List.map_cons, List.map_cons, List.map_cons, List.map_cons, List.map_nil, bW_val, bW_val, bW_val, bW_one]
                    exact this
                  case measure => simp [intOf]; omega
                · have ji : ¬ ((j : Int) < 8) := by omega
                  have hj8 : j = 8 := by omega
                  have HO6 := HOWN.out
                  rw [hj8] at HO6
                  obtain ⟨g6, cap6, rfl, _⟩ := HO6.form (by decide)
                  have hcv := conv_out (dg F 8) (4 * 8) (length_dg _ _) HO6
                  rw [← HSM.out] at hcv
                  have HFF := Lib.hid (HB.out.trans (HNX.out.mono HB.out.size))
                  clear HO6 hj8 hjN HOWN HNX
                  go_wp2_with fail
                  go_ret
                  exact ⟨rfl, HFF.out⟩
    · have t1 : ((n : Int) % 64 != 56) = true := by simp; omega
      have HA := Lib.hid (show ownsF (wr.alloc (.cells #[.int .u8 0] 5 (0, 0))) w.heap.size 5 (.slice (some ⟨g, 0, none⟩) n cap) n (vls (padJ s j)) from by have h9 := HP.out.own.alloc (.cells #[.int .u8 0] 5 (0, 0)); rwa [HNN.out] at h9)
      have HN := Lib.hid (show n + 1 ≤ 140737488355328 by omega)
      have HC := Lib.hid (show (wr.alloc (.cells #[.int .u8 0] 5 (0, 0))).cell? ⟨wr.heap.size, 0, none⟩ = some (.int .u8 0) from cell_of_row _ _ _ _ _ _ (MapKept.heap_alloc _ _).1)
      have HL := Lib.hid (le_alloc (B := w.heap.size) HP.out.bel.size (.cells #[.int .u8 0] 5 (0, 0)))
      have hjz : j < padZ s.size := by have := HZ.out; have := HHL.out; have := HJ.out; omega
      have HJZ := Lib.hid hjz
      clear h56 hjz hnc hn9
      go_wp2_with (at_builtin; refine wpList_append_f _ rfl (.tmp 22) (.tmp 23) 83 rfl w.heap.size 5 i8 (.int .u8 0) Tryz.underlying83 hj0 hy0 hy1 hy2 rfl (.slice (some ⟨g, 0, none⟩) n cap) n (vls (padJ s j)) rfl HA.out ⟨wr.heap.size, 0, none⟩ 1 (.int .u8 0) rfl HC.out rfl HN.out HL.out ?_)
      intro v2 w2 h1 h2
      have HP2 := Lib.hid (show PaSt w (padJ s (j + 1)) v2 w2 from by rw [padJ_succ]; exact PaSt.app HP.out (x := 0) (by rw [HNN.out]; exact h1) h2)
      clear h1 h2
      go_wp2_with fail
      go_roundw
      case rel => exact ⟨j + 1, HJZ.out, HP2.out⟩
      case measure =>
        obtain ⟨g2, cap2, rfl, _⟩ := HP2.out.own.form
        rw [padJ_succ, List.length_append, HNN.out]
        simp only [sliceLen, List.length_cons, List.length_nil]
        omega
end Go.Proofs.YtfckjilhkdlpfaaGreatDoor

namespace MS
open Go Go.RowKit
/-- A world grown from w: what was there is as it was. -/
def BW (w : World) := {x : World // Below w.heap.size w x}
instance (w : World) : Nonempty (BW w) := ⟨⟨w, Below.refl _ _⟩⟩
section
variable {P : Program}
theorem wp_region_below {id : Nat} {Q : Exit → Act → World → Prop} {a : Act} {w : World} {l : List Oper} (hm : P.follows .mixedOrders = true) (hB : Region.lexB .any l.toArray = true)
    (h : wpQuiet P l.toArray (fun w' => ∃ p : BW w, w' = p.1) (fun a' => ∀ w', (∃ p : BW w, w' = p.1) → Q .normal a' w') l a) : (Code.region id l.toArray true).wp P Q a w :=
  wp_region_quiet (C := fun w' => ∃ p : BW w, w' = p.1) hm hB ⟨⟨w.drew, (Below.refl _ _).drew⟩, rfl⟩ (by simpa using h)
theorem wp_region_below_tail {id : Nat} {Q : Exit → Act → World → Prop} {a : Act} {w : World} {l : List Oper} (n : Nat) (hm : P.follows .mixedOrders = true) (hB : Region.lexTailB .any l.toArray n = true)
    (h : wpQuiet P l.toArray (fun w' => ∃ p : BW w, w' = p.1) (fun a' => ∀ w', (∃ p : BW w, w' = p.1) → wpList P l.toArray Q (l.drop n) a' w') (l.take n) a) : (Code.region id l.toArray true).wp P Q a w :=
  wp_region_quiet_tail n _ hm hB ⟨⟨w.drew, (Below.refl _ _).drew⟩, rfl⟩ h
theorem calls_below {f : FuncId} {args : Array Value} {w : World} {p : BW w} {v : Value} (h : Calls P f args p.1 fun e w' => e = .returned v ∧ Below p.1.heap.size p.1 w') :
    Calls P f args p.1 fun e w'' => e = .returned v ∧ ∃ q : BW w, w'' = q.1 :=
  h.mono fun _ w'' ⟨he, hb⟩ => ⟨he, ⟨w'', p.2.trans (hb.mono p.2.size)⟩, rfl⟩
end
end MS

namespace Go.Proofs.YtfckjilhkdlpfaaGreatDoor
open Go.RowKit MS
/-- The first j bytes of a block: the key's, each turned by b; noughts behind. -/
def mkJ (k : List UInt8) (b : UInt8) (j : Nat) : List UInt8 := (List.range 64).map fun i => if i < j then k.getD i 0 ^^^ b else 0
theorem length_mkJ (k : List UInt8) (b : UInt8) (j : Nat) : (mkJ k b j).length = 64 := by simp [mkJ]
theorem mkJ_zero (k : List UInt8) (b : UInt8) : mkJ k b 0 = List.replicate 64 0 := by rfl
theorem mkJ_all (k : List UInt8) (b : UInt8) : mkJ k b 64 = mkL k b := by
  apply List.ext_getElem?
  intro i
  by_cases h : i < 64
  · simp [mkJ, mkL, h]
  · simp [mkJ, mkL, h]
theorem mkJ_step (k : List UInt8) (b : UInt8) (j : Nat) (hj : j < 64) : (mkJ k b j).set j (k.getD j 0 ^^^ b) = mkJ k b (j + 1) := by
  apply List.ext_getElem?
  intro i
  rw [List.getElem?_set, length_mkJ]
  by_cases e : j = i
  · subst e; rw [if_pos rfl, if_pos hj]; simp [mkJ, hj]
  · rw [if_neg e]
    by_cases h : i < 64
    · simp [mkJ, h, show (i < j + 1) = (i < j) by apply propext; omega]
    · simp [mkJ, h]
theorem conv_est {g : Nat} {w0 w : World} {L : List UInt8} (h : ESt g w0 L w) (n : Nat) (hn : L.length = n) : (convert 83 9 (.slice (some ⟨g, 0, none⟩) n n)).run Tryz.prog w = .ok (.string (bs L)) w :=
  run_block_to_string w 83 9 5 Tryz.underlying83 Tryz.underlying5 Tryz.underlying9 g n n 5 (0, 0) L (cs := (vls L).toArray) h.ro hn (fun j hj => by simp [vls, valB, hj])
set_option maxRecDepth 100000 in
/-- 'make([]byte, n)'. -/
theorem run_zeros (n : Nat) (hn : n ≤ 1000000) (w : World) : (Instr.makeSlice 83 (.int .i64 n) (.int .i64 n)).run Tryz.prog w = .ok (.slice (some ⟨w.heap.size, 0, none⟩) n n) (w.alloc (.cells (vls (List.replicate n 0)).toArray 5 (0, 0))) := by
  obtain ⟨i8, hj0, hy0, hy1, hy2⟩ : ∃ i, Tryz.prog.info? 5 = some i ∧ i.zero = some (.int .u8 0) ∧ i.size = 1 ∧ i.bytes = 1 := ⟨_, rfl, rfl, rfl, rfl⟩
  have hrun := run_make (P := Tryz.prog) w 83 5 i8 (.int .u8 0) Tryz.underlying83 hj0 hy0 .i64 .i64 (n : Int) (n : Int) (by omega) (by omega) (by rw [hy2]; omega) (by omega)
  rw [hy1] at hrun
  simp only [Int.toNat_natCast, Nat.mul_one] at hrun
  have hz : madeCells (Value.int .u8 0).cells n = (vls (List.replicate n 0)).toArray := by
    apply Array.toList_inj.1
    exact zeros_made n
  rw [hz] at hrun
  exact hrun
theorem ESt.mono {g : Nat} {w0 w1 w : World} {L : List UInt8} (h : ESt g w1 L w) (hb : Below w0.heap.size w0 w1) : ESt g w0 L w := ⟨Nat.le_trans hb.size h.ge, h.ro, hb.trans (h.bel.mono hb.size)⟩
theorem ESt.on {g : Nat} {w0 w w' : World} {L : List UInt8} (h : ESt g w0 L w) (hb : Below w.heap.size w w') : ESt g w0 L w' :=
  ⟨h.ge, (hb.block _ (Array.getElem?_eq_some_iff.1 h.ro).1).trans h.ro, h.bel.trans (hb.mono h.bel.size)⟩

theorem est_two (w : World) (L : List UInt8) : ESt w.heap.size w L ((w.alloc (.cells (vls L).toArray 5 (0, 0))).alloc (.cells (vls L).toArray 5 (0, 0))).drew ∧ ESt (w.heap.size + 1) w L ((w.alloc (.cells (vls L).toArray 5 (0, 0))).alloc (.cells (vls L).toArray 5 (0, 0))).drew := by
  have hb : Below w.heap.size w ((w.alloc (.cells (vls L).toArray 5 (0, 0))).alloc (.cells (vls L).toArray 5 (0, 0))).drew := (below_alloc (below_alloc (Below.refl _ _) _) _).drew
  refine ⟨⟨Nat.le_refl _, ?_, hb⟩, ⟨Nat.le_succ _, ?_, hb⟩⟩
  · exact ((MapKept.heap_alloc _ _).2 _ (by rw [World.size_alloc]; omega)).trans (MapKept.heap_alloc w _).1
  · have := (MapKept.heap_alloc (w.alloc (.cells (vls L).toArray 5 (0, 0))) (.cells (vls L).toArray 5 (0, 0))).1
    rw [World.size_alloc] at this
    exact this
theorem ESt.other {g g' : Nat} {w0 w : World} {L : List UInt8} (h : ESt g w0 L w) (hne : g' ≠ g) (hb : w0.heap.size ≤ g') (i : Nat) (v : Value) : ESt g w0 L (w.setCell ⟨g', i, none⟩ v) :=
  ⟨h.ge, (setCell_other' v (Ne.symm hne)).trans h.ro, below_setCell h.bel hb v⟩

set_option maxRecDepth 1000000 in
set_option maxHeartbeats 2000000 in
theorem rmac_any (k s : ByteArray) (w : World) (hk : k.size ≤ 10000) (hs : s.size ≤ 10000) :
    Calls Tryz.prog 65 #[.string k, .string s] w fun e w' => e = .returned (.string (macB k s)) ∧ Below w.heap.size w w' := by
  have HKK := Lib.hid (show k.size > 64 → ∀ w, Calls Tryz.prog 96 #[.string k] w fun e w' => e = .returned (.string (kB k)) ∧ Below w.heap.size w w' from fun h w => by
    have := rsum_any k w (by omega)
    rwa [show sumB k = kB k by rw [kB, if_pos h]] at this)
  have HKN := Lib.hid (show ¬ k.size > 64 → kB k = k from fun h => by rw [kB, if_neg h])
  have HKS := Lib.hid (size_kB k)
  have S1 := Lib.hid (fun w => rsum_any (bs (mkL (ls (kB k)) 54) ++ s) w (by rw [ByteArray.size_append, size_bs, mkL, List.length_map, List.length_range]; omega))
  have S2 := Lib.hid (fun w => rsum_any (bs (mkL (ls (kB k)) 92) ++ sumB (bs (mkL (ls (kB k)) 54) ++ s)) w (by rw [ByteArray.size_append, size_bs, mkL, List.length_map, List.length_range, size_sumB]; decide))
  have HR := Lib.hid (show sumB (bs (mkL (ls (kB k)) 92) ++ sumB (bs (mkL (ls (kB k)) 54) ++ s)) = macB k s by
    have e : ∀ b t, bs (mkL (ls (kB k)) b) ++ t = maskB (kB k) b t := fun b t => by
      apply ls_inj
      rw [ls_append, maskB, ls_bs, ls_bs]
    rw [e, e]
    rfl)
  have ss : (s.size : Int) ≤ 10000 := by omega
  have z1 : ((bs (mkL (ls (kB k)) 54)).size : Int) + s.size ≤ 10064 := by rw [size_bs, mkL, List.length_map, List.length_range]; omega
  have z2 : ((bs (mkL (ls (kB k)) 92)).size : Int) + ((sumB (bs (mkL (ls (kB k)) 54) ++ s)).size : Int) ≤ 10064 := by rw [size_bs, mkL, List.length_map, List.length_range, size_sumB]; decide
  rw [HR.out] at S2
  generalize macB k s = R at HR S2
  generalize sumB (bs (mkL (ls (kB k)) 54) ++ s) = D1 at S1 S2 z2
  generalize hK : kB k = K at *
  clear hK hs HR
  by_cases h : k.size > 64
  case' pos =>
    have t1 : decide ((k.size : Int) > 64) = true := by simp; omega
    have SK := Lib.hid (HKK.out h)
    clear h HKK HKN hk
    go_enter Tryz.func65, Tryz.ntmps65
    go_wp2_with fail
    refine (SK.out _).mono ?_
    rintro e w1 ⟨rfl, hb1⟩
    have B1 := Lib.hid hb1
    clear hb1 SK
    go_upto_region 3 with fail
  case' neg =>
    have t1 : decide ((k.size : Int) > 64) = false := by simp; omega
    have e := HKN.out h
    subst e
    clear h HKK HKN hk
    obtain ⟨w1, hw1⟩ : ∃ w1 : World, w1 = w := ⟨_, rfl⟩
    have B1 := Lib.hid (show Below w.heap.size w w1 by rw [hw1]; exact Below.refl _ _)
    have HW1 := Lib.hid hw1
    clear hw1
    go_enter Tryz.func65, Tryz.ntmps65
    go_upto_region 3 with fail
    rw [← HW1.out]
  all_goals
    go_cut [5, 6] (fun a b wx => ∃ ga gb : Nat, a = .slice (some ⟨ga, 0, none⟩) 64 64 ∧ b = .slice (some ⟨gb, 0, none⟩) 64 64 ∧ ga ≠ gb ∧ ESt ga w1 (List.replicate 64 0) wx ∧ ESt gb w1 (List.replicate 64 0) wx)
    case first =>
      have hmk := fun w => run_zeros 64 (by decide) w
      rw [show ((64 : Nat) : Int) = 64 from rfl] at hmk
      have E2 := Lib.hid (est_two w1 (List.replicate 64 0))
      generalize (vls (List.replicate 64 0)).toArray = Z at hmk E2
      go_region
      all_goals
        go_wp2_with fail
        go_meet
        first
          | exact ⟨w1.heap.size, w1.heap.size + 1, rfl, rfl, by omega, E2.out.1, E2.out.2⟩
          | exact ⟨w1.heap.size + 1, w1.heap.size, rfl, rfl, by omega, E2.out.2, E2.out.1⟩
    case rest =>
      obtain ⟨ga, gb, rfl, rfl, hne, ha, hb⟩ := hcut
      have HNE := Lib.hid hne
      rw [← mkJ_zero (ls K) 54] at ha
      rw [← mkJ_zero (ls K) 92] at hb
      go_wp2_with fail
      clear hne
      go_loopw [7] (fun i wr => ∃ j : Nat, j ≤ 64 ∧ i = .int .i64 j ∧ ESt ga w1 (mkJ (ls K) 54 j) wr ∧ ESt gb w1 (mkJ (ls K) 92 j) wr) (fun i _ => 64 - (intOf i).toNat)
      case atStart => exact ⟨0, by omega, rfl, ha, hb⟩
      case round =>
        obtain ⟨j, hj, rfl, ea, eb⟩ := hrel
        clear ha hb
        by_cases hlt : j < 64
        · have ji : (j : Int) < 64 := by omega
          have jn : (0 : Int) ≤ j := by omega
          have ca := ea.byte j (by rw [length_mkJ]; exact hlt)
          have fa := frozen_of_row _ ga j _ _ ea.ro
          have cb := eb.byte j (by rw [length_mkJ]; exact hlt)
          have fb := frozen_of_row _ gb j _ _ eb.ro
          have st1 := mkJ_step (ls K) 54 j hlt
          have st2 := mkJ_step (ls K) 92 j hlt
          obtain ⟨x, hx⟩ : ∃ x, (ls K).getD j 0 = x := ⟨_, rfl⟩
          rw [hx] at st1 st2
          obtain ⟨ya, hya⟩ : ∃ y, x ^^^ 54 = y := ⟨_, rfl⟩
          obtain ⟨yb, hyb⟩ : ∃ y, x ^^^ 92 = y := ⟨_, rfl⟩
          rw [hya] at st1
          rw [hyb] at st2
          have xa : bits .xor .u8 (x.toNat : Int) 54 = (ya.toNat : Int) := by
            rw [← hya, show (54 : Int) = ((54 : UInt8).toNat : Int) from rfl, u8_xor_nat _ _ (UInt8.toNat_lt _) (UInt8.toNat_lt _), UInt8.toNat_xor]
          have xb : bits .xor .u8 (x.toNat : Int) 92 = (yb.toNat : Int) := by
            rw [← hyb, show (92 : Int) = ((92 : UInt8).toNat : Int) from rfl, u8_xor_nat _ _ (UInt8.toNat_lt _) (UInt8.toNat_lt _), UInt8.toNat_xor]
          have na := (ea.put j ya).other (Ne.symm HNE.out) eb.ge j (valB yb)
          rw [st1] at na
          have nb := (eb.other HNE.out ea.ge j (valB ya)).put j yb
          rw [st2] at nb
          have NA := Lib.hid na
          have NB := Lib.hid nb
          have HLT := Lib.hid hlt
          have hne := HNE.out
          have hne' := Ne.symm HNE.out
          clear na nb st1 st2 ea eb hlt
          by_cases hk : j < K.size
          case' pos =>
            have ki : (j : Int) < K.size := by omega
            have hgd := ls_get K j hk
            rw [hx] at hgd
            clear hx hya hyb
          case' neg =>
            have ki : ¬ ((j : Int) < K.size) := by omega
            have hx0 : (ls K).getD j 0 = 0 := by rw [List.getD_eq_getElem?_getD, List.getElem?_eq_none (by rw [length_ls]; omega)]; rfl
            rw [hx0] at hx
            subst hx hya hyb
            clear hx0 xa xb
          all_goals
            go_wp2_with fail
            go_roundw
            case rel => exact ⟨j + 1, HLT.out, by go_num, NA.out, NB.out⟩
            case measure => simp [intOf]; omega
        · have ji : ¬ ((j : Int) < 64) := by omega
          have hj64 : j = 64 := by omega
          rw [hj64, mkJ_all] at ea eb
          have CA := Lib.hid (fun (p : BW wr) => conv_est (ea.on p.2) 64 (by rw [mkL, List.length_map, List.length_range]))
          have CB := Lib.hid (fun (p : BW wr) => conv_est (eb.on p.2) 64 (by rw [mkL, List.length_map, List.length_range]))
          have HB := Lib.hid (B1.out.trans (ea.bel.mono B1.out.size))
          clear ea eb hlt hj64 hj
          generalize bs (mkL (ls K) 54) = A1 at *
          generalize bs (mkL (ls K) 92) = A2 at *
          go_wp2_with fail
          have ca := CA.out
          have cb := CB.out
          refine wp_region_below (by kernel_rfl) (by kernel_rfl) ?_
          repeat (go_big_quiet_step (first | (go_at_call_of 96 (Value.string (A1 ++ s)); exact calls_below (S1.out _)) | (go_at_call_of 96 (Value.string (A2 ++ D1)); exact calls_below (S2.out _))))
          refine wpQuiet_nil ?_
          rintro _ ⟨p, rfl⟩
          have HP := Lib.hid p.2
          generalize p.1 = wp at HP ⊢
          go_wp2_with fail
          go_ret
          exact ⟨rfl, HB.out.trans (HP.out.mono HB.out.size)⟩
end Go.Proofs.YtfckjilhkdlpfaaGreatDoor

namespace Go.Proofs.YtfckjilhkdlpfaaGreatDoor
open Go.RowKit MS
set_option maxRecDepth 1000000 in
set_option maxHeartbeats 1000000 in
theorem rdraw_any (sec salt info : ByteArray) (n : Nat) (w : World) (hn : n ≤ 8160) (h1 : sec.size ≤ 1000) (h2 : salt.size ≤ 1000) (h3 : info.size ≤ 1000) :
    Calls Tryz.prog 59 #[.string sec, .string salt, .string info, .int .i64 n] w fun e w' => e = .returned (.string (drawB sec salt info n)) ∧ Below w.heap.size w w' := by
  have HN := Lib.hid hn
  have n0 : (0 : Int) ≤ n := by omega
  have n1 : (n : Int) ≤ 8160 := by omega
  have M1 := Lib.hid (fun w => rmac_any salt sec w (by omega) (by omega))
  have HX := Lib.hid (size_macB salt sec)
  have HD := Lib.hid (show drawB sec salt info n = bs ((drO (macB salt sec) info ((n + 31) / 32)).take n) from rfl)
  have HI := Lib.hid h3
  generalize macB salt sec = X at M1 HX HD
  generalize drawB sec salt info n = R at HD
  clear hn h1 h2 h3
  go_enter Tryz.func59, Tryz.ntmps59
  go_wp2_with fail
  refine (M1.out _).mono ?_
  rintro e w1 ⟨rfl, hb1⟩
  have B1 := Lib.hid hb1
  clear hb1 M1
  go_wp2_with fail
  go_loopw [10, 11, 12] (fun o l c wr => ∃ (j : Nat) (b d : ByteArray), 32 * j < n + 32 ∧ c = .int .i64 (j + 1 : Nat) ∧ l = .string d ∧ d = drT X info j ∧ o = .string b ∧ b = bs (drO X info j) ∧ b.size = 32 * j ∧ Below w.heap.size w wr) (fun o _ _ _ => n - (match o with | .string b => b.size | _ => 0))
  case atStart => exact ⟨0, ⟨#[]⟩, ⟨#[]⟩, by omega, rfl, rfl, rfl, rfl, rfl, rfl, B1.out⟩
  case round =>
    obtain ⟨j, b, d, hj, rfl, rfl, hd, rfl, hb, hbs, hB⟩ := hrel
    have HB := Lib.hid hB
    have HJ := Lib.hid hj
    have HD1 := Lib.hid hd
    have HB1 := Lib.hid hb
    have hds : d.size ≤ 32 := by rw [hd]; exact size_drT X info j
    have HBS := Lib.hid hbs
    clear hB hj hd hb
    by_cases hlt : 32 * j < n
    · have j1 : (b.size : Int) < n := by omega
      obtain ⟨c, hc⟩ : ∃ c, c = j + 1 := ⟨_, rfl⟩
      have c255 : c ≤ 255 := by have := HN.out; omega
      have c0 : (0 : Int) ≤ c := by omega
      have c1 : (c : Int) ≤ 255 := by omega
      have HC := Lib.hid hc
      rw [← hc]
      have kcv := run_one_int (P := Tryz.prog) 83 9 5 Tryz.underlying83 Tryz.underlying5 Tryz.underlying9 (c : Int) c0 c1
      have M3 := Lib.hid (fun w => rmac_any X (d ++ info ++ bs [UInt8.ofNat c]) w (by rw [HX.out]; decide) (by
        rw [ByteArray.size_append, ByteArray.size_append, size_bs]
        have := HI.out
        simp only [List.length_cons, List.length_nil]
        omega))
      have HT := Lib.hid (show macB X (d ++ info ++ bs [UInt8.ofNat c]) = drT X info (j + 1) by rw [HC.out, HD1.out]; rfl)
      have s1 : (d.size : Int) + info.size ≤ 2000 := by have := HI.out; omega
      have s2 : (d.size : Int) + info.size + ((bs [UInt8.ofNat c]).size : Int) ≤ 2001 := by rw [size_bs]; have := HI.out; simp only [List.length_cons, List.length_nil]; omega
      have HBA := Lib.hid (below_alloc HB.out (.cells #[.int .u8 (c : Int)] 5 (0, 0)))
      have HLT := Lib.hid hlt
      clear hc c255 hds hbs hlt
      go_wp2_with fail
      refine (M3.out _).mono ?_
      rintro e w3 ⟨rfl, hb3⟩
      rw [HT.out]
      have HB3 := Lib.hid (HBA.out.trans (hb3.mono HBA.out.size))
      have HZ := Lib.hid (show (drT X info (j + 1)).size = 32 by rw [drT, size_macB])
      have HS := Lib.hid (show drO X info (j + 1) = drO X info j ++ ls (drT X info (j + 1)) from rfl)
      generalize hDD : drT X info (j + 1) = D at HZ HS ⊢
      have HDD := Lib.hid hDD
      have s3 : (b.size : Int) + D.size ≤ 10000 := by rw [HZ.out, HBS.out]; have := HN.out; have := HLT.out; omega
      clear hDD hb3 s1 s2 kcv HBA M3 HT
      go_wp2_with fail
      go_roundw
      case rel =>
        have := HLT.out
        refine ⟨j + 1, _, _, by omega, ?_, rfl, by rw [HDD.out], rfl, ?_, ?_, HB3.out⟩
        · have := HC.out; go_num
        · rw [HS.out, HB1.out, ← bs_append]; rfl
        · rw [ByteArray.size_append, HZ.out, HBS.out]; omega
      case measure =>
        show n - (b ++ D).size < n - b.size
        rw [ByteArray.size_append, HZ.out]
        omega
    · have j1 : ¬ ((b.size : Int) < n) := by omega
      have hq : (drO X info ((n + 31) / 32)).take n = (drO X info j).take n := (drO_take _ _ _ j (by have := HJ.out; omega) n (by omega))
      have hR : b.extract 0 n = R := by
        rw [HD.out, hq, HB1.out]
        apply ls_inj
        rw [ls_extract, ls_bs, ls_bs, List.drop_zero, Nat.sub_zero]
      have hc1 : (n : Int) ≤ b.size := by omega
      clear hq hlt hds hbs
      go_wp2_with fail
      go_ret
      exact ⟨rfl, HB.out⟩

theorem run_0001 (w : World) (b : Nat) (hb : w.heap.size = b) : (convert 83 9 (.slice (some ⟨b, 0, none⟩) 4 4)).run Tryz.prog (w.alloc (.cells #[.int .u8 0, .int .u8 0, .int .u8 0, .int .u8 1] 5 (0, 0))) = .ok (.string (bs [0, 0, 0, 1])) (w.alloc (.cells #[.int .u8 0, .int .u8 0, .int .u8 0, .int .u8 1] 5 (0, 0))) := by
  subst hb
  refine run_block_to_string _ 83 9 5 Tryz.underlying83 Tryz.underlying5 Tryz.underlying9 _ 4 4 5 (0, 0) [0, 0, 0, 1] (cs := #[.int .u8 0, .int .u8 0, .int .u8 0, .int .u8 1]) (heap_alloc_new w _) rfl (fun j h => ?_)
  match j, h with
  | 0, _ => rfl
  | 1, _ => rfl
  | 2, _ => rfl
  | 3, _ => rfl
theorem est_two0 (w : World) (L : List UInt8) (o : Obj) : ESt w.heap.size w L ((w.alloc (.cells (vls L).toArray 5 (0, 0))).alloc o) :=
  ⟨Nat.le_refl _, ((MapKept.heap_alloc _ _).2 _ (by rw [World.size_alloc]; omega)).trans (MapKept.heap_alloc w _).1, below_alloc (below_alloc (Below.refl _ _) _) _⟩
theorem ESt.drew {g : Nat} {w0 w : World} {L : List UInt8} (h : ESt g w0 L w) : ESt g w0 L w.drew := ⟨h.ge, h.ro, h.bel.drew⟩
/-- The rounds of the document's Password: what is digested, what is gathered. -/
def rU (k s : ByteArray) : Nat → ByteArray
  | 0 => s ++ bs [0, 0, 0, 1]
  | n + 1 => pwU k s n
def rX (k s : ByteArray) : Nat → List UInt8
  | 0 => List.replicate 32 0
  | n + 1 => pwX k s n
theorem rU_succ (k s : ByteArray) (n : Nat) : macB k (rU k s n) = rU k s (n + 1) := by cases n <;> rfl
theorem length_rX (k s : ByteArray) (n : Nat) : (rX k s n).length = 32 := by
  cases n with
  | zero => rfl
  | succ n => exact length_pwX k s n
theorem mixl_zeros (N : Nat) (l : List UInt8) (hl : l.length = N) : mixl (List.replicate N 0) (fun i => l.getD i 0) N = l := by
  apply List.ext_getElem?
  intro i
  by_cases h : i < N
  · rw [mixl_get _ _ _ _ (by simpa using h), if_pos h]
    simp [h, show i < l.length by omega]
  · rw [List.getElem?_eq_none (by rw [length_mixl]; simp; omega), List.getElem?_eq_none (by omega)]
theorem rX_succ (k s : ByteArray) (n : Nat) : mixl (rX k s n) (fun i => (ls (rU k s (n + 1))).getD i 0) 32 = rX k s (n + 1) := by
  cases n with
  | zero => exact mixl_zeros 32 _ (by rw [length_ls]; exact size_pwU k s 0)
  | succ n => rfl

set_option maxRecDepth 1000000 in
set_option maxHeartbeats 2000000 in
theorem rpass_any (k s : ByteArray) (r : Nat) (w : World) (hr : r ≤ 64) (h1 : k.size ≤ 1000) (h2 : s.size ≤ 1000) :
    Calls Tryz.prog 40 #[.string k, .string s, .int .i64 r] w fun e w' => e = .returned (.string (bs (rX k s r))) ∧ Below w.heap.size w w' := by
  have HR := Lib.hid hr
  have r1 : (r : Int) ≤ 64 := by omega
  have M := Lib.hid (fun n w => rmac_any k (rU k s n) w (by omega) (by
    cases n with
    | zero => rw [rU, ByteArray.size_append, size_bs]; simp only [List.length_cons, List.length_nil]; omega
    | succ n => rw [rU, size_pwU]; decide))
  have hss2 : (s.size : Int) + ((bs [0, 0, 0, 1]).size : Int) ≤ 1004 := by rw [size_bs]; simp only [List.length_cons, List.length_nil]; omega
  have HU := Lib.hid (rU_succ k s)
  have HU0 := Lib.hid (show rU k s 0 = s ++ bs [0, 0, 0, 1] from rfl)
  have HX := Lib.hid (rX_succ k s)
  have HXL := Lib.hid (length_rX k s)
  have HX0 := Lib.hid (show rX k s 0 = List.replicate 32 0 from rfl)
  have HUL := Lib.hid (show ∀ n, (rU k s (n + 1)).size = 32 from size_pwU k s)
  generalize rU k s = pU at *
  generalize rX k s = pX at *
  have kcv := run_0001
  have hmk := fun w => run_zeros 32 (by decide) w
  rw [show ((32 : Nat) : Int) = 32 from rfl, ← HX0.out] at hmk
  clear hr h1 h2
  go_enter Tryz.func40, Tryz.ntmps40
  go_wp2_with fail
  have E0 := Lib.hid (est_two0 w (pX 0) (.cells #[.int .u8 0, .int .u8 0, .int .u8 0, .int .u8 1] 5 (0, 0)))
  generalize (w.alloc (.cells (vls (pX 0)).toArray 5 (0, 0))).alloc (.cells #[.int .u8 0, .int .u8 0, .int .u8 0, .int .u8 1] 5 (0, 0)) = w1 at E0 ⊢
  rw [← HU0.out]
  generalize w.heap.size + 1 = g1
  generalize hg : w.heap.size = g at E0 ⊢
  have HG := Lib.hid hg
  clear hg kcv hmk hss2
  go_loopw [8, 9] (fun u i wr => ∃ j : Nat, j ≤ r ∧ i = .int .i64 j ∧ u = .string (pU j) ∧ ESt g w (pX j) wr) (fun _ i _ => r - (intOf i).toNat)
  case atStart => exact ⟨0, Nat.zero_le _, rfl, rfl, E0.out⟩
  case round =>
    obtain ⟨j, hj, rfl, rfl, he⟩ := hrel
    have E1 := Lib.hid he
    have HJ := Lib.hid hj
    clear he hj E0
    by_cases hlt : j < r
    · have j1 : (j : Int) < r := by omega
      have j0 : (0 : Int) ≤ j := by omega
      have HLT := Lib.hid hlt
      clear hlt
      go_wp2_with fail
      refine (M.out j _).mono ?_
      rintro e w5 ⟨rfl, hb5⟩
      rw [HU.out j]
      have E5 := Lib.hid (E1.out.on hb5)
      have HXJ := Lib.hid (HX.out j)
      have HDL := Lib.hid (HUL.out j)
      have HLJ := Lib.hid (HXL.out j)
      generalize hD : pU (j + 1) = D at HXJ HDL ⊢
      have HD := Lib.hid hD
      clear hb5 hD E1
      go_wp2_with fail
      obtain ⟨wo, rfl⟩ : ∃ wo : World, wo = wr := ⟨_, rfl⟩
      go_loopw [10] (fun i wr => ∃ p : Nat, p ≤ 32 ∧ i = .int .i64 p ∧ ESt g w (mixl (pX j) (fun i => (ls D).getD i 0) p) wr) (fun i _ => 32 - (intOf i).toNat)
      case atStart => exact ⟨0, by omega, rfl, by rw [mixl_zero]; exact E5.out⟩
      case round =>
        obtain ⟨p, hp, rfl, he⟩ := hrel
        have E6 := Lib.hid he
        clear he E5
        by_cases hlt : p < 32
        · have p1 : (p : Int) < 32 := by omega
          have p0 : (0 : Int) ≤ p := by omega
          have hpd : p < D.size := by rw [HDL.out]; exact hlt
          have hpi : (p : Int) < D.size := by omega
          have HP9 := Lib.hid hlt
          have hml : (mixl (pX j) (fun i => (ls D).getD i 0) p).length = 32 := by rw [length_mixl, HLJ.out]
          have c1 := E6.out.byte p (by rw [hml]; exact hlt)
          rw [mixl_getD _ _ _ (by rw [HLJ.out]; exact hlt)] at c1
          have f1 := frozen_of_row _ g p _ _ E6.out.ro
          have st := mixl_step (pX j) (fun i => (ls D).getD i 0) p (by rw [HLJ.out]; exact hlt)
          have hgd := ls_get D p hpd
          generalize (ls D).getD p 0 = y at st hgd
          generalize (pX j).getD p 0 = x at c1 st
          have put := E6.out.put p (x ^^^ y)
          rw [st] at put
          have HPUT := Lib.hid put
          have hxor : bits .xor .u8 (x.toNat : Int) (y.toNat : Int) = (((x ^^^ y).toNat : Nat) : Int) := by rw [u8_xor_nat _ _ x.toNat_lt y.toNat_lt, UInt8.toNat_xor]
          generalize x ^^^ y = z at HPUT hxor put
          clear hml hlt st put
          go_wp2_with fail
          go_still_tail 11, (by kernel_rfl)
          go_wp2_with fail
          go_roundw
          case rel => exact ⟨p + 1, HP9.out, by go_num, HPUT.out.drew⟩
          case measure => simp [intOf]; omega
        · have p1 : ¬ ((p : Int) < 32) := by omega
          have hp32 : p = 32 := by omega
          have E7 := E6.out
          rw [hp32, ← HD.out, HX.out j] at E7
          have E8 := Lib.hid E7
          clear E7 hp32 hlt
          go_wp2_with fail
          go_roundw
          case rel => exact ⟨j + 1, HLT.out, by go_num, by rw [HD.out], E8.out⟩
          case measure => simp [intOf]; omega
    · have j1 : ¬ ((j : Int) < r) := by omega
      have hjr : j = r := by have := HJ.out; omega
      have E9 := E1.out
      rw [hjr] at E9
      have hcv := conv_est E9 32 (HXL.out r)
      have HB := Lib.hid E9.bel
      clear E9 hjr hlt
      go_wp2_with fail
      go_ret
      exact ⟨rfl, HB.out⟩
end Go.Proofs.YtfckjilhkdlpfaaGreatDoor

namespace MS
abbrev Q' : Nat := 57896044618658097711785492504343953926634992332820282019728792003956564819949
/-- Five limbs of 51 bits. -/
structure N5 where
  a : Nat
  b : Nat
  c : Nat
  d : Nat
  e : Nat
def N5.v (x : N5) : Nat := x.a + 2251799813685248 * x.b + 5070602400912917605986812821504 * x.c + 11417981541647679048466287755595961091061972992 * x.d + 25711008708143844408671393477458601640355247900524685364822016 * x.e
/-- Any limbs of 64 bits. -/
def N5.ok (x : N5) : Prop := x.a < 18446744073709551616 ∧ x.b < 18446744073709551616 ∧ x.c < 18446744073709551616 ∧ x.d < 18446744073709551616 ∧ x.e < 18446744073709551616
/-- Narrow ones: each below 2^51 + 2^18. -/
def N5.nar (x : N5) : Prop := x.a < 2251799813947392 ∧ x.b < 2251799813947392 ∧ x.c < 2251799813947392 ∧ x.d < 2251799813947392 ∧ x.e < 2251799813947392
/-- Least ones: each below 2^51. -/
def N5.lst (x : N5) : Prop := x.a < 2251799813685248 ∧ x.b < 2251799813685248 ∧ x.c < 2251799813685248 ∧ x.d < 2251799813685248 ∧ x.e < 2251799813685248

def narrow (x : N5) : N5 :=
  ⟨x.a % 2251799813685248 + 19 * (x.e / 2251799813685248), x.b % 2251799813685248 + x.a / 2251799813685248, x.c % 2251799813685248 + x.b / 2251799813685248,
   x.d % 2251799813685248 + x.c / 2251799813685248, x.e % 2251799813685248 + x.d / 2251799813685248⟩
theorem narrow_nar {x : N5} (h : x.ok) : (narrow x).nar := by
  obtain ⟨h1, h2, h3, h4, h5⟩ := h
  refine ⟨?_, ?_, ?_, ?_, ?_⟩ <;> simp only [narrow] <;> omega
theorem narrow_v (x : N5) : (narrow x).v + x.e / 2251799813685248 * Q' = x.v := by
  obtain ⟨a, b, c, d, e⟩ := x
  simp only [narrow, N5.v, Q']
  omega
theorem narrow_mod (x : N5) : (narrow x).v % Q' = x.v % Q' := by
  rw [← narrow_v x, Nat.add_mul_mod_self_right]
theorem nar_ok {x : N5} (h : x.nar) : x.ok := by
  obtain ⟨h1, h2, h3, h4, h5⟩ := h
  exact ⟨by omega, by omega, by omega, by omega, by omega⟩

def over (x : N5) : Nat :=
  ((((( x.a + 19) / 2251799813685248 + x.b) / 2251799813685248 + x.c) / 2251799813685248 + x.d) / 2251799813685248 + x.e) / 2251799813685248
def carried (x : N5) (k : Nat) : N5 :=
  let s0 := x.a + k
  let s1 := x.b + s0 / 2251799813685248
  let s2 := x.c + s1 / 2251799813685248
  let s3 := x.d + s2 / 2251799813685248
  let s4 := x.e + s3 / 2251799813685248
  ⟨s0 % 2251799813685248, s1 % 2251799813685248, s2 % 2251799813685248, s3 % 2251799813685248, s4 % 2251799813685248⟩
def least (x : N5) : N5 := carried (narrow x) (19 * over (narrow x))
theorem carried_lst (x : N5) (k : Nat) : (carried x k).lst := by
  refine ⟨?_, ?_, ?_, ?_, ?_⟩ <;> simp only [carried] <;> exact Nat.mod_lt _ (by decide)
theorem carried_v (x : N5) (k : Nat) : (carried x k).v = (x.v + k) % 57896044618658097711785492504343953926634992332820282019728792003956564819968 := by
  obtain ⟨a, b, c, d, e⟩ := x
  simp only [carried, N5.v]
  omega
theorem over_v (x : N5) : over x = (x.v + 19) / 57896044618658097711785492504343953926634992332820282019728792003956564819968 := by
  obtain ⟨a, b, c, d, e⟩ := x
  simp only [over, N5.v]
  omega
theorem nar_v_lt {x : N5} (h : x.nar) : x.v < 2 * Q' := by
  obtain ⟨a, b, c, d, e⟩ := x
  obtain ⟨h1, h2, h3, h4, h5⟩ := h
  simp only at h1 h2 h3 h4 h5
  simp only [N5.v, Q']
  omega
theorem least_v {x : N5} (h : x.ok) : (least x).v = x.v % Q' := by
  have h1 := nar_v_lt (narrow_nar h)
  rw [← narrow_mod x, least, carried_v, over_v]
  generalize (narrow x).v = n at *
  simp only [Q'] at *
  by_cases hn : n < 57896044618658097711785492504343953926634992332820282019728792003956564819949
  · have e0 : (n + 19) / 57896044618658097711785492504343953926634992332820282019728792003956564819968 = 0 := by omega
    rw [e0]; omega
  · have e1 : (n + 19) / 57896044618658097711785492504343953926634992332820282019728792003956564819968 = 1 := by omega
    rw [e1]; omega
theorem least_lst (x : N5) : (least x).lst := carried_lst _ _

/-- Products: the five columns. -/
def col0 (x y : N5) : Nat := x.a * y.a + x.b * (y.e * 19) + x.c * (y.d * 19) + x.d * (y.c * 19) + x.e * (y.b * 19)
def col1 (x y : N5) : Nat := x.a * y.b + x.b * y.a + x.c * (y.e * 19) + x.d * (y.d * 19) + x.e * (y.c * 19)
def col2 (x y : N5) : Nat := x.a * y.c + x.b * y.b + x.c * y.a + x.d * (y.e * 19) + x.e * (y.d * 19)
def col3 (x y : N5) : Nat := x.a * y.d + x.b * y.c + x.c * y.b + x.d * y.a + x.e * (y.e * 19)
def col4 (x y : N5) : Nat := x.a * y.e + x.b * y.d + x.c * y.c + x.d * y.b + x.e * y.a
def folded (c0 c1 c2 c3 c4 : Nat) : N5 :=
  ⟨c0 % 2251799813685248 + 19 * (c4 / 2251799813685248), c1 % 2251799813685248 + c0 / 2251799813685248, c2 % 2251799813685248 + c1 / 2251799813685248,
   c3 % 2251799813685248 + c2 / 2251799813685248, c4 % 2251799813685248 + c3 / 2251799813685248⟩
def mulN (x y : N5) : N5 := folded (col0 x y) (col1 x y) (col2 x y) (col3 x y) (col4 x y)
def mul (x y : N5) : N5 := narrow (mulN (narrow x) (narrow y))

theorem prod_lt {x y : Nat} (hx : x < 2251799813947392) (hy : y < 42784196465000448) : x * y ≤ 96342447615577040000000000000000 := by
  have := Nat.mul_le_mul (Nat.le_of_lt_succ hx) (Nat.le_of_lt_succ hy)
  omega
theorem prod_lt19 {x y : Nat} (hx : x < 2251799813947392) (hy : y < 2251799813947392) : x * (y * 19) ≤ 96342447615577040000000000000000 := prod_lt hx (by omega)
theorem prod_lt1 {x y : Nat} (hx : x < 2251799813947392) (hy : y < 2251799813947392) : x * y ≤ 96342447615577040000000000000000 := prod_lt hx (by omega)
/-- Each column is below 2^109. -/
theorem cols_lt {x y : N5} (hx : x.nar) (hy : y.nar) :
    col0 x y < 649037107316853453566312041152512 ∧ col1 x y < 649037107316853453566312041152512 ∧ col2 x y < 649037107316853453566312041152512 ∧ col3 x y < 649037107316853453566312041152512 ∧ col4 x y < 649037107316853453566312041152512 := by
  obtain ⟨h1, h2, h3, h4, h5⟩ := hx
  obtain ⟨k1, k2, k3, k4, k5⟩ := hy
  unfold col0 col1 col2 col3 col4
  refine ⟨?_, ?_, ?_, ?_, ?_⟩
  · have := prod_lt1 h1 k1; have := prod_lt19 h2 k5; have := prod_lt19 h3 k4; have := prod_lt19 h4 k3; have := prod_lt19 h5 k2; omega
  · have := prod_lt1 h1 k2; have := prod_lt1 h2 k1; have := prod_lt19 h3 k5; have := prod_lt19 h4 k4; have := prod_lt19 h5 k3; omega
  · have := prod_lt1 h1 k3; have := prod_lt1 h2 k2; have := prod_lt1 h3 k1; have := prod_lt19 h4 k5; have := prod_lt19 h5 k4; omega
  · have := prod_lt1 h1 k4; have := prod_lt1 h2 k3; have := prod_lt1 h3 k2; have := prod_lt1 h4 k1; have := prod_lt19 h5 k5; omega
  · have := prod_lt1 h1 k5; have := prod_lt1 h2 k4; have := prod_lt1 h3 k3; have := prod_lt1 h4 k2; have := prod_lt1 h5 k1; omega
theorem folded_ok {c0 c1 c2 c3 c4 : Nat} (h0 : c0 < 649037107316853453566312041152512) (h1 : c1 < 649037107316853453566312041152512) (h2 : c2 < 649037107316853453566312041152512) (h3 : c3 < 649037107316853453566312041152512) (h4 : c4 < 649037107316853453566312041152512) :
    (folded c0 c1 c2 c3 c4).ok := by
  refine ⟨?_, ?_, ?_, ?_, ?_⟩ <;> simp only [folded] <;> omega
theorem folded_v (c0 c1 c2 c3 c4 : Nat) : (folded c0 c1 c2 c3 c4).v + c4 / 2251799813685248 * Q' = (⟨c0, c1, c2, c3, c4⟩ : N5).v := by
  simp only [folded, N5.v, Q']
  omega
theorem cols_v (x y : N5) : (⟨col0 x y, col1 x y, col2 x y, col3 x y, col4 x y⟩ : N5).v +
    Q' * (x.b * y.e + x.c * y.d + x.d * y.c + x.e * y.b + 2251799813685248 * (x.c * y.e + x.d * y.d + x.e * y.c) + 5070602400912917605986812821504 * (x.d * y.e + x.e * y.d) + 11417981541647679048466287755595961091061972992 * (x.e * y.e)) = x.v * y.v := by
  simp only [N5.v, col0, col1, col2, col3, col4, Q']
  grind
theorem mulN_mod (x y : N5) : (mulN x y).v % Q' = x.v * y.v % Q' := by
  rw [← cols_v x y, Nat.add_mul_mod_self_left, ← folded_v (col0 x y) (col1 x y) (col2 x y) (col3 x y) (col4 x y), Nat.add_mul_mod_self_right]
  rfl
theorem mulN_ok {x y : N5} (hx : x.nar) (hy : y.nar) : (mulN x y).ok := by
  obtain ⟨h0, h1, h2, h3, h4⟩ := cols_lt hx hy
  exact folded_ok h0 h1 h2 h3 h4
theorem mul_mod (x y : N5) : (mul x y).v % Q' = x.v * y.v % Q' := by
  rw [mul, narrow_mod, mulN_mod, Nat.mul_mod, narrow_mod, narrow_mod, ← Nat.mul_mod]
theorem mul_nar {x y : N5} (hx : x.ok) (hy : y.ok) : (mul x y).nar := narrow_nar (mulN_ok (narrow_nar hx) (narrow_nar hy))

def addN (x y : N5) : N5 := ⟨x.a + y.a, x.b + y.b, x.c + y.c, x.d + y.d, x.e + y.e⟩
def add (x y : N5) : N5 := narrow (addN (narrow x) (narrow y))
theorem addN_ok {x y : N5} (hx : x.nar) (hy : y.nar) : (addN x y).ok := by
  obtain ⟨h1, h2, h3, h4, h5⟩ := hx
  obtain ⟨k1, k2, k3, k4, k5⟩ := hy
  refine ⟨?_, ?_, ?_, ?_, ?_⟩ <;> simp only [addN] <;> omega
theorem add_mod (x y : N5) : (add x y).v % Q' = (x.v + y.v) % Q' := by
  have e : (addN (narrow x) (narrow y)).v = (narrow x).v + (narrow y).v := by simp only [N5.v, addN]; omega
  rw [add, narrow_mod, e, Nat.add_mod, narrow_mod, narrow_mod, ← Nat.add_mod]
theorem add_nar {x y : N5} (hx : x.ok) (hy : y.ok) : (add x y).nar := narrow_nar (addN_ok (narrow_nar hx) (narrow_nar hy))
/-- Twice the prime, less y. -/
def subN (x y : N5) : N5 := ⟨x.a + (4503599627370458 - y.a), x.b + (4503599627370494 - y.b), x.c + (4503599627370494 - y.c), x.d + (4503599627370494 - y.d), x.e + (4503599627370494 - y.e)⟩
def sub (x y : N5) : N5 := narrow (subN (narrow x) (narrow y))
theorem subN_ok {x y : N5} (hx : x.nar) : (subN x y).ok := by
  obtain ⟨h1, h2, h3, h4, h5⟩ := hx
  refine ⟨?_, ?_, ?_, ?_, ?_⟩ <;> simp only [subN] <;> omega
theorem subN_v {x y : N5} (hy : y.nar) : (subN x y).v + y.v = x.v + 2 * Q' := by
  obtain ⟨h1, h2, h3, h4, h5⟩ := hy
  obtain ⟨a, b, c, d, e⟩ := x
  obtain ⟨a', b', c', d', e'⟩ := y
  simp only [N5.v, subN, Q'] at *
  omega
theorem sub_mod {x y : N5} (hy : y.ok) : ((sub x y).v + y.v) % Q' = x.v % Q' := by
  have e := subN_v (x := narrow x) (narrow_nar hy)
  rw [Nat.add_mod, sub, narrow_mod, ← narrow_mod y, ← Nat.add_mod, e, Nat.add_mul_mod_self_right, narrow_mod]
theorem sub_nar {x y : N5} (hx : x.ok) : (sub x y).nar := narrow_nar (subN_ok (narrow_nar hx))
end MS

namespace Go.Proofs.YtfckjilhkdlpfaaGreatDoor
open Go.RowKit MS
/-- A number's five cells. -/
def nvA (x : N5) : Array Value := #[.int .u64 (x.a : Int), .int .u64 (x.b : Int), .int .u64 (x.c : Int), .int .u64 (x.d : Int), .int .u64 (x.e : Int)]
theorem and51 (a : Nat) (h : a < 18446744073709551616) : bits .and .u64 (a : Int) 2251799813685247 = ((a % 2251799813685248 : Nat) : Int) := by
  have := u64_and_nat a 2251799813685247 h (by decide)
  rw [show ((2251799813685247 : Nat) : Int) = 2251799813685247 from rfl] at this
  rw [this, show (2251799813685247 : Nat) = 2 ^ 51 - 1 from rfl, Nat.and_two_pow_sub_one_eq_mod]
theorem shr51 (a : Nat) : (a : Int) / 2251799813685248 = ((a / 2251799813685248 : Nat) : Int) := by omega

set_option maxRecDepth 100000 in
set_option maxHeartbeats 1000000 in
theorem narrow_any (x : N5) (hx : x.ok) (w : World) :
    Calls Tryz.prog 103 #[.agg (nvA x)] w fun e w' => e = .returned (.agg (nvA (narrow x))) ∧ Below w.heap.size w w' := by
  obtain ⟨a, b, c, d, e⟩ := x
  obtain ⟨ha, hb, hc, hd, he⟩ := hx
  simp only at ha hb hc hd he
  have a0 := and51 a ha
  have b0 := and51 b hb
  have c0 := and51 c hc
  have d0 := and51 d hd
  have e0 := and51 e he
  have a1 := shr51 a
  have b1 := shr51 b
  have c1 := shr51 c
  have d1 := shr51 d
  have e1 := shr51 e
  have HR := Lib.hid (show nvA (narrow ⟨a, b, c, d, e⟩) = nvA ⟨a % 2251799813685248 + 19 * (e / 2251799813685248), b % 2251799813685248 + a / 2251799813685248, c % 2251799813685248 + b / 2251799813685248, d % 2251799813685248 + c / 2251799813685248, e % 2251799813685248 + d / 2251799813685248⟩ from rfl)
  have la : a % 2251799813685248 < 2251799813685248 := Nat.mod_lt _ (by decide)
  have lb : b % 2251799813685248 < 2251799813685248 := Nat.mod_lt _ (by decide)
  have lc : c % 2251799813685248 < 2251799813685248 := Nat.mod_lt _ (by decide)
  have ld : d % 2251799813685248 < 2251799813685248 := Nat.mod_lt _ (by decide)
  have le : e % 2251799813685248 < 2251799813685248 := Nat.mod_lt _ (by decide)
  have ma : a / 2251799813685248 < 8192 := by omega
  have mb : b / 2251799813685248 < 8192 := by omega
  have mc : c / 2251799813685248 < 8192 := by omega
  have md : d / 2251799813685248 < 8192 := by omega
  have me : e / 2251799813685248 < 8192 := by omega
  generalize a % 2251799813685248 = al at *
  generalize b % 2251799813685248 = bl at *
  generalize c % 2251799813685248 = cl at *
  generalize d % 2251799813685248 = dl at *
  generalize e % 2251799813685248 = el at *
  generalize a / 2251799813685248 = ah at *
  generalize b / 2251799813685248 = bh at *
  generalize c / 2251799813685248 = ch at *
  generalize d / 2251799813685248 = dh at *
  generalize e / 2251799813685248 = eh at *
  clear ha hb hc hd he
  rw [HR.out]
  unfold nvA
  simp only
  go_enter Tryz.func103, Tryz.ntmps103
  go_wp2_with fail
  exact bodyPost_ret (v := .agg #[.int .u64 ((al : Int) + 19 * (eh : Int)), .int .u64 ((bl : Int) + (ah : Int)), .int .u64 ((cl : Int) + (bh : Int)), .int .u64 ((dl : Int) + (ch : Int)), .int .u64 ((el : Int) + (dh : Int))]) (by simp [results, Tryz.results103, go_sem]) rfl ⟨rfl, ((Below.refl _ _).alloc (Nat.le_refl _) _).alloc (by simp) _⟩
end Go.Proofs.YtfckjilhkdlpfaaGreatDoor

namespace MS
open Go Go.RowKit
/-- A block: its number, its cells, their type. -/
abbrev Blk := Nat × Array Value × TypeId
structure Rw (w0 : World) (l : List Blk) (w : World) : Prop where
  nd : (l.map (·.1)).Nodup
  ge : ∀ r ∈ l, w0.heap.size ≤ r.1
  rows : ∀ r ∈ l, w.heap[r.1]? = some (.cells r.2.1 r.2.2 (0, 0))
  bel : Below w0.heap.size w0 w
theorem Rw.nil (w : World) : Rw w [] w := ⟨by simp, by simp, by simp, Below.refl _ _⟩
theorem Rw.lt {w0 w : World} {l : List Blk} (h : Rw w0 l w) (r : Blk) (hr : r ∈ l) : r.1 < w.heap.size := (Array.getElem?_eq_some_iff.1 (h.rows r hr)).1
theorem Rw.on {w0 w w' : World} {l : List Blk} (h : Rw w0 l w) (hb : Below w.heap.size w w') : Rw w0 l w' :=
  ⟨h.nd, h.ge, fun r hr => (hb.block _ (h.lt r hr)).trans (h.rows r hr), h.bel.trans (hb.mono h.bel.size)⟩
theorem Rw.drew {w0 w : World} {l : List Blk} (h : Rw w0 l w) : Rw w0 l w.drew := ⟨h.nd, h.ge, h.rows, h.bel.drew⟩
theorem Rw.drewN {w0 w : World} {l : List Blk} (h : Rw w0 l w) (k : Nat) : Rw w0 l (w.drewN k) := ⟨h.nd, h.ge, h.rows, ⟨h.bel.os, h.bel.tape, h.bel.output, h.bel.size, h.bel.block⟩⟩
theorem Rw.alloc {w0 w : World} {l : List Blk} (h : Rw w0 l w) (cs : Array Value) (T : TypeId) : Rw w0 (l ++ [(w.heap.size, cs, T)]) (w.alloc (.cells cs T (0, 0))) := by
  refine ⟨?_, ?_, ?_, h.bel.alloc h.bel.size _⟩
  · rw [List.map_append, List.nodup_append]
    refine ⟨h.nd, by simp, ?_⟩
    intro a ha b hb
    obtain ⟨r, hr, rfl⟩ := List.mem_map.1 ha
    simp only [List.map_cons, List.map_nil, List.mem_singleton] at hb
    have := h.lt r hr
    omega
  · intro r hr
    rcases List.mem_append.1 hr with h1 | h1
    · exact h.ge r h1
    · rw [List.mem_singleton.1 h1]; exact h.bel.size
  · intro r hr
    rcases List.mem_append.1 hr with h1 | h1
    · exact ((MapKept.heap_alloc w _).2 _ (h.lt r h1)).trans (h.rows r h1)
    · rw [List.mem_singleton.1 h1]; exact (MapKept.heap_alloc w _).1
/-- Blocks of no interest, made in between. -/
theorem Rw.alloc_other {w0 w : World} {l : List Blk} (h : Rw w0 l w) (o : Obj) : Rw w0 l (w.alloc o) := h.on ((Below.refl _ _).alloc (Nat.le_refl _) o)
theorem Rw.drop {w0 w : World} {l : List Blk} {r : Blk} (h : Rw w0 (r :: l) w) : Rw w0 l w :=
  ⟨(List.nodup_cons.1 h.nd).2, fun s hs => h.ge s (List.mem_cons_of_mem _ hs), fun s hs => h.rows s (List.mem_cons_of_mem _ hs), h.bel⟩
theorem Rw.row {w0 w : World} {l : List Blk} (h : Rw w0 l w) (i : Nat) {g : Nat} {cs : Array Value} {T : TypeId} (hi : l[i]? = some (g, cs, T) := by rfl) : w.heap[g]? = some (.cells cs T (0, 0)) := h.rows _ (List.mem_of_getElem? hi)
theorem Rw.cell {w0 w : World} {l : List Blk} (h : Rw w0 l w) (i j : Nat) {g : Nat} {cs : Array Value} {T : TypeId} {v : Value} (hv : cs[j]? = some v) (hi : l[i]? = some (g, cs, T) := by rfl) : w.cell? ⟨g, j, none⟩ = some v := by
  rw [cell_of_row w g j cs T (0, 0) (h.row i hi), hv]
theorem Rw.free {w0 w : World} {l : List Blk} (h : Rw w0 l w) (i j : Nat) {g : Nat} {cs : Array Value} {T : TypeId} (hi : l[i]? = some (g, cs, T) := by rfl) : w.frozen? ⟨g, j, none⟩ = false := frozen_of_row w g j cs T (h.row i hi)
theorem set_map (l : List Blk) (i g : Nat) (cs cs' : Array Value) (T : TypeId) (hi : l[i]? = some (g, cs, T)) : (l.set i (g, cs', T)).map (·.1) = l.map (·.1) := by
  apply List.ext_getElem?
  intro j
  rw [List.getElem?_map, List.getElem?_set, List.getElem?_map]
  by_cases e : i = j
  · subst e
    have hl : i < l.length := (List.getElem?_eq_some_iff.1 hi).1
    rw [if_pos rfl, if_pos hl, hi]; rfl
  · rw [if_neg e]
theorem mem_set_cases {l : List Blk} {i : Nat} {b r : Blk} (hr : r ∈ l.set i b) : r = b ∨ ∃ j, j ≠ i ∧ l[j]? = some r := by
  obtain ⟨j, hj⟩ := List.mem_iff_getElem?.1 hr
  rw [List.getElem?_set] at hj
  by_cases e : i = j
  · rw [if_pos e] at hj
    split at hj
    · exact .inl (Option.some.inj hj).symm
    · cases hj
  · rw [if_neg e] at hj
    exact .inr ⟨j, fun h => e h.symm, hj⟩
theorem nodup_ne {l : List Blk} (h : (l.map (·.1)).Nodup) {i j : Nat} {a b : Blk} (hi : l[i]? = some a) (hj : l[j]? = some b) (hne : j ≠ i) : b.1 ≠ a.1 := by
  intro e
  have hi' : (l.map (·.1))[i]? = some a.1 := by rw [List.getElem?_map, hi]; rfl
  have hj' : (l.map (·.1))[j]? = some a.1 := by rw [List.getElem?_map, hj]; exact congrArg some e
  exact hne ((List.getElem?_inj (List.getElem?_eq_some_iff.1 hi').1 h).1 (hi'.trans hj'.symm)).symm
theorem Rw.change {w0 w w' : World} {l : List Blk} (h : Rw w0 l w) (i : Nat) {g : Nat} {cs : Array Value} {T : TypeId} (cs' : Array Value) (hi : l[i]? = some (g, cs, T)) (h1 : w'.heap[g]? = some (.cells cs' T (0, 0)))
    (h2 : ∀ k, k ≠ g → w'.heap[k]? = w.heap[k]?) (hb : Below w0.heap.size w0 w') : Rw w0 (l.set i (g, cs', T)) w' := by
  refine ⟨by rw [set_map l i g cs cs' T hi]; exact h.nd, ?_, ?_, hb⟩
  · intro r hr
    rcases mem_set_cases hr with rfl | ⟨j, _, hj⟩
    · exact h.ge (g, cs, T) (List.mem_of_getElem? hi)
    · exact h.ge _ (List.mem_of_getElem? hj)
  · intro r hr
    rcases mem_set_cases hr with rfl | ⟨j, hne, hj⟩
    · exact h1
    · rw [h2 _ (nodup_ne h.nd hi hj hne)]
      exact h.rows _ (List.mem_of_getElem? hj)
theorem Rw.put {w0 w : World} {l : List Blk} (h : Rw w0 l w) (i j : Nat) (v : Value) {g : Nat} {cs : Array Value} {T : TypeId} (hi : l[i]? = some (g, cs, T) := by rfl) : Rw w0 (l.set i (g, cs.setIfInBounds j v, T)) (w.setCell ⟨g, j, none⟩ v) :=
  h.change i _ hi (heap_setCell_same w g j cs T v (h.row i hi)) (fun _ hk => heap_setCell_other _ _ _ _ hk) (h.bel.setCell (h.ge (g, cs, T) (List.mem_of_getElem? hi)) v)
theorem below_row {B g : Nat} {w0 w : World} (h : Below B w0 w) (hg : B ≤ g) (cs : Array Value) : Below B w0 (w.setRow g cs) :=
  ⟨h.os, h.tape, h.output, by simpa using h.size, fun k hk => by rw [setRow_other _ _ _ _ (by omega)]; exact h.block k hk⟩
theorem Rw.store {w0 w : World} {l : List Blk} (h : Rw w0 l w) (i : Nat) (cs' : Array Value) {g : Nat} {cs : Array Value} {T : TypeId} (hi : l[i]? = some (g, cs, T) := by rfl) : Rw w0 (l.set i (g, cs', T)) (w.setRow g cs') :=
  h.change i _ hi (setRow_heap _ _ _ _ _ _ (h.row i hi)) (fun _ hk => setRow_other _ _ _ _ hk) (below_row h.bel (h.ge (g, cs, T) (List.mem_of_getElem? hi)) _)

/-- Five words of 64 bits. -/
def rowF (f : Nat → Nat) : Array Value := #[.int .u64 (f 0 : Nat), .int .u64 (f 1 : Nat), .int .u64 (f 2 : Nat), .int .u64 (f 3 : Nat), .int .u64 (f 4 : Nat)]
theorem rowF_get (f : Nat → Nat) (j : Nat) (h : j < 5) : (rowF f)[j]? = some (.int .u64 (f j : Nat)) := by
  have : j = 0 ∨ j = 1 ∨ j = 2 ∨ j = 3 ∨ j = 4 := by omega
  rcases this with rfl | rfl | rfl | rfl | rfl <;> rfl
def upd (f : Nat → Nat) (j v : Nat) : Nat → Nat := fun i => if i = j then v else f i
theorem rowF_set (f : Nat → Nat) (j v : Nat) (h : j < 5) : (rowF f).setIfInBounds j (.int .u64 (v : Nat)) = rowF (upd f j v) := by
  have : j = 0 ∨ j = 1 ∨ j = 2 ∨ j = 3 ∨ j = 4 := by omega
  rcases this with rfl | rfl | rfl | rfl | rfl <;> rfl
theorem rowF_congr {f g : Nat → Nat} (h : ∀ i, i < 5 → f i = g i) : rowF f = rowF g := by
  unfold rowF
  rw [h 0 (by decide), h 1 (by decide), h 2 (by decide), h 3 (by decide), h 4 (by decide)]
theorem size_rowF (f : Nat → Nat) : (rowF f).size = 5 := rfl
theorem one_rowF (f : Nat → Nat) : (rowF f).all (·.oneCell') = true := by simp [rowF, Value.oneCell']
/-- A row in whose first j places the new values stand. -/
def prog (F G : Nat → Nat) (j : Nat) : Nat → Nat := fun i => if i < j then G i else F i
theorem prog_zero (F G : Nat → Nat) : prog F G 0 = F := by funext i; simp [prog]
theorem prog_at (F G : Nat → Nat) (j : Nat) : prog F G j j = F j := if_neg (Nat.lt_irrefl j)
theorem prog_set (F G : Nat → Nat) (j : Nat) : upd (prog F G j) j (G j) = prog F G (j + 1) := by
  funext i
  unfold upd prog
  by_cases e : i = j
  · subst e; rw [if_pos rfl, if_pos (Nat.lt_succ_self i)]
  · rw [if_neg e]
    by_cases h : i < j
    · rw [if_pos h, if_pos (by omega)]
    · rw [if_neg h, if_neg (by omega)]
theorem prog_end (F G : Nat → Nat) : rowF (prog F G 5) = rowF G := rowF_congr fun _ hi => if_pos hi
end MS

namespace Go.Proofs.YtfckjilhkdlpfaaGreatDoor
open Go.RowKit MS
def getN (x : N5) : Nat → Nat
  | 0 => x.a
  | 1 => x.b
  | 2 => x.c
  | 3 => x.d
  | _ => x.e
theorem nvA_row (x : N5) : nvA x = rowF (getN x) := rfl
theorem infoN (f : Nat → Nat) : (Tryz.prog.info? 94).map (·.size) = some (rowF f).size := by rw [size_rowF]; kernel_rfl
theorem infoV (x : N5) : (Tryz.prog.info? 94).map (·.size) = some (nvA x).size := infoN (getN x)
theorem one_nvA (x : N5) : (nvA x).all (·.oneCell') = true := one_rowF (getN x)
theorem size_nvA (x : N5) : (nvA x).size = 5 := rfl
theorem wpQuiet_load_rowF {P : Program} {ops : Array Oper} {C : World → Prop} {Q : Act → Prop} {a : Act} {o : Oper} {rest : List Oper} (hgd : o.guard = none) (ty : TypeId) (x : Operand) (ho : o.op = .load ty x)
    (g : Nat) (hx : a.eval x = .pointer (some ⟨g, 0, none⟩)) (t : TypeId) (cs : Array Value) (fr : Nat × Nat) (d : TypeDesc) (hC : ∀ w, C w → w.heap[g]? = some (.cells cs t fr))
    (hu : P.underlying ty = some d) (hd : (match d with | .struct _ | .array _ _ => true | _ => false) = true) (hi : (P.info? ty).map (·.size) = some cs.size)
    (h : wpQuiet P ops C Q rest (a.put o.dst (.agg cs))) : wpQuiet P ops C Q (o :: rest) a := by
  show if Region.wanted o (yielded ops a.tmps) = true then _ else _
  rw [if_pos (by simp [Region.wanted, hgd])]
  refine ⟨.agg cs, fun w hw => ?_, h⟩
  unfold Oper.quietAt execOp
  simp only [ho, hx, Instr.loadAt, Instr.sureAddr, Sem.run_bind, Sem.run_pure, Result.andThen_ok, run_loadVar_row w g t ty cs fr d (hC w hw) hu hd hi]
  exact ⟨rfl, rfl⟩
/-- Two boxed numbers and the result's block. -/
theorem rw3 (w : World) (r0 r1 r2 : Array Value) : Rw w [(w.heap.size, r0, 94), (w.heap.size + 1, r1, 94), (w.heap.size + 1 + 1, r2, 94)] (((w.alloc (.cells r0 94 (0, 0))).alloc (.cells r1 94 (0, 0))).alloc (.cells r2 94 (0, 0))) := by
  have h := (((Rw.nil w).alloc r0 94).alloc r1 94).alloc r2 94
  simpa using h

theorem nar_get {x : N5} (h : x.nar) (j : Nat) : getN x j < 2251799813947392 := by
  obtain ⟨h1, h2, h3, h4, h5⟩ := h
  unfold getN
  split <;> assumption

set_option maxRecDepth 100000 in
set_option maxHeartbeats 1000000 in
theorem feadd_any (x y : N5) (hx : x.ok) (hy : y.ok) (w : World) :
    Calls Tryz.prog 99 #[.agg (nvA x), .agg (nvA y)] w fun e w' => e = .returned (.agg (nvA (add x y))) ∧ Below w.heap.size w w' := by
  have NX := Lib.hid (fun w => narrow_any x hx w)
  have NY := Lib.hid (fun w => narrow_any y hy w)
  have R0 := Lib.hid (rw3 w (nvA x) (nvA y) #[.int .u64 0, .int .u64 0, .int .u64 0, .int .u64 0, .int .u64 0])
  have IX := Lib.hid (infoV x)
  have IY := Lib.hid (infoV y)
  have SX := Lib.hid (size_nvA x)
  have SY := Lib.hid (size_nvA y)
  have BX := Lib.hid (nar_get (narrow_nar hx))
  have BY := Lib.hid (nar_get (narrow_nar hy))
  generalize hrx : nvA x = rx at NX R0 IX SX ⊢
  generalize hry : nvA y = ry at NY R0 IY SY ⊢
  clear hrx hry
  go_enter Tryz.func99, Tryz.ntmps99
  go_wp2_with fail
  generalize ((w.alloc (.cells rx 94 (0, 0))).alloc (.cells ry 94 (0, 0))).alloc (.cells #[.int .u64 0, .int .u64 0, .int .u64 0, .int .u64 0, .int .u64 0] 94 (0, 0)) = W at R0 ⊢
  refine wp_region_below_tail 4 (by kernel_rfl) (by kernel_rfl) ?_
  simp only [List.take_succ_cons, List.take_zero, List.drop_succ_cons, List.drop_zero]
  refine wpQuiet_load_rowF rfl 94 (.tmp 2) rfl w.heap.size rfl 94 rx (0, 0) _ ?hC Tryz.underlying94 rfl IX.out ?_
  case hC => rintro w' ⟨p, rfl⟩; exact (R0.out.on p.2).row 0
  simp only [Act.put, List.setIfInBounds_toArray, List.set_cons_zero, List.set_cons_succ]
  go_big_quiet_step (exact calls_below (NX.out _))
  refine wpQuiet_load_rowF rfl 94 (.tmp 3) rfl (w.heap.size + 1) rfl 94 ry (0, 0) _ ?hC2 Tryz.underlying94 rfl IY.out ?_
  case hC2 => rintro w' ⟨p, rfl⟩; exact (R0.out.on p.2).row 1
  simp only [Act.put, List.setIfInBounds_toArray, List.set_cons_zero, List.set_cons_succ]
  go_big_quiet_step (exact calls_below (NY.out _))
  refine wpQuiet_nil ?_
  rintro _ ⟨p, rfl⟩
  have R1 := Lib.hid (R0.out.on p.2)
  generalize p.1 = wp at R1 ⊢
  have R2 := Lib.hid ((R1.out.store 0 (nvA (narrow x))).store 1 (nvA (narrow y)))
  have R1' := Lib.hid (R1.out.store 0 (nvA (narrow x)))
  have INX := Lib.hid (infoV (narrow x))
  have INY := Lib.hid (infoV (narrow y))
  have ONX := Lib.hid (one_nvA (narrow x))
  have ONY := Lib.hid (one_nvA (narrow y))
  have LX := Lib.hid (show rx.size = (nvA (narrow x)).size by rw [SX.out]; rfl)
  have LY := Lib.hid (show ry.size = (nvA (narrow y)).size by rw [SY.out]; rfl)
  go_wp2_with (first
    | (with_reducible refine wpList_store_row rfl 94 (.tmp 2) (.tmp 7) rfl w.heap.size (nvA (narrow x)) rfl rfl 94 rx ?hg1 INX.out LX.out ONX.out ?_)
    | (with_reducible refine wpList_store_row rfl 94 (.tmp 3) (.tmp 9) rfl (w.heap.size + 1) (nvA (narrow y)) rfl rfl 94 ry ?hg2 INY.out LY.out ONY.out ?_))
  case hg1 => exact R1.out.row 0
  case hg2 => exact R1'.out.row 1
  generalize (World.setRow wp w.heap.size (nvA (narrow x))).setRow (w.heap.size + 1) (nvA (narrow y)) = w2 at R2 ⊢
  have R2 := Lib.hid (show Rw w [(w.heap.size, rowF (getN (narrow x)), 94), (w.heap.size + 1, rowF (getN (narrow y)), 94), (w.heap.size + 1 + 1, #[.int .u64 0, .int .u64 0, .int .u64 0, .int .u64 0, .int .u64 0], 94)] w2 from R2.out)
  clear R0 R1 R1' NX NY IX IY INX INY ONX ONY LX LY SX SY
  have NF := Lib.hid (fun w => narrow_any (addN (narrow x) (narrow y)) (addN_ok (narrow_nar hx) (narrow_nar hy)) w)
  have HOP := Lib.hid (show add x y = narrow (addN (narrow x) (narrow y)) from rfl)
  have HROW := Lib.hid (show rowF (fun i => getN (narrow x) i + getN (narrow y) i) = nvA (addN (narrow x) (narrow y)) from rfl)
  generalize hX : getN (narrow x) = X at *
  generalize hY : getN (narrow y) = Y at *
  generalize addN (narrow x) (narrow y) = S at NF HOP HROW
  clear hX hY hx hy
  generalize hA : w.heap.size = ga at *
  generalize hB : ga + 1 = gb at *
  generalize hC : gb + 1 = gc at *
  clear hB hC
  have HA := Lib.hid hA
  clear hA
  go_loopw [10] (fun i wr => ∃ j : Nat, j ≤ 5 ∧ i = .int .i64 j ∧ Rw w [(ga, rowF (prog X (fun i => X i + Y i) j), 94), (gb, rowF Y, 94), (gc, #[.int .u64 0, .int .u64 0, .int .u64 0, .int .u64 0, .int .u64 0], 94)] wr) (fun i _ => 5 - (intOf i).toNat)
  case atStart => exact ⟨0, by omega, rfl, by rw [prog_zero]; exact R2.out⟩
  case round =>
    obtain ⟨j, hj, rfl, hr⟩ := hrel
    have R3 := Lib.hid hr
    clear hr R2
    by_cases hlt : j < 5
    · have j1 : (j : Int) < 5 := by omega
      have j0 : (0 : Int) ≤ j := by omega
      have ca := R3.out.cell 0 j (rowF_get _ j hlt)
      have cb := R3.out.cell 1 j (rowF_get _ j hlt)
      have fa := R3.out.free 0 j
      rw [prog_at] at ca
      have bx := BX.out j
      have bby := BY.out j
      have put := R3.out.put 0 j (.int .u64 ((X j + Y j : Nat) : Int))
      rw [rowF_set _ _ _ hlt, prog_set X (fun i => X i + Y i) j] at put
      have hs : ((X j + Y j : Nat) : Int) = (X j : Int) + (Y j : Int) := by omega
      rw [hs] at put
      have PUT := Lib.hid put
      have HLT := Lib.hid hlt
      generalize X j = xj at *
      generalize Y j = yj at *
      clear put hlt hs hj
      go_wp2_with fail
      go_still_tail 8, (by kernel_rfl)
      go_wp2_with fail
      go_roundw
      case rel => exact ⟨j + 1, HLT.out, by go_num, PUT.out.drew⟩
      case measure => simp [intOf]; omega
    · have j1 : ¬ ((j : Int) < 5) := by omega
      have hj5 : j = 5 := by omega
      have r4 := R3.out
      rw [hj5, prog_end, HROW.out] at r4
      have R4 := Lib.hid r4
      clear r4 hj5 hlt hj R3
      have IS := Lib.hid (infoV S)
      have IN := Lib.hid (infoV (narrow S))
      have ON := Lib.hid (one_nvA (narrow S))
      have LN := Lib.hid (show (#[.int .u64 0, .int .u64 0, .int .u64 0, .int .u64 0, .int .u64 0] : Array Value).size = (nvA (narrow S)).size from rfl)
      have RW4 := Lib.hid (R4.out.row 0)
      go_wp2_with (with_reducible refine wpList_load_row rfl 94 (.tmp 2) rfl ga rfl 94 (nvA S) (0, 0) _ RW4.out Tryz.underlying94 rfl IS.out ?_)
      refine (NF.out _).mono ?_
      rintro e w5 ⟨rfl, hb5⟩
      have R5 := Lib.hid (R4.out.on hb5)
      have RW5 := Lib.hid (R5.out.row 2)
      clear hb5
      go_wp2_with (with_reducible refine wpList_store_row rfl 94 (.tmp 4) (.tmp 23) rfl gc (nvA (narrow S)) rfl rfl 94 #[.int .u64 0, .int .u64 0, .int .u64 0, .int .u64 0, .int .u64 0] RW5.out IN.out LN.out ON.out ?_)
      have R6 := R5.out.store 2 (nvA (narrow S))
      rw [HOP.out]
      refine bodyPost_ret (results_cell_row rfl _ _ gc 94 (nvA (narrow S)) (0, 0) _ rfl (R6.row 2) Tryz.underlying94 rfl IN.out) rfl ⟨rfl, ?_⟩
      exact R6.bel

/-- Twice the prime, less y, limb by limb. -/
def sbG (X Y : Nat → Nat) (i : Nat) : Nat := X i + ((if i = 0 then 4503599627370458 else 4503599627370494) - Y i)
set_option maxRecDepth 100000 in
set_option maxHeartbeats 1000000 in
theorem fesub_any (x y : N5) (hx : x.ok) (hy : y.ok) (w : World) :
    Calls Tryz.prog 100 #[.agg (nvA x), .agg (nvA y)] w fun e w' => e = .returned (.agg (nvA (sub x y))) ∧ Below w.heap.size w w' := by
  have NX := Lib.hid (fun w => narrow_any x hx w)
  have NY := Lib.hid (fun w => narrow_any y hy w)
  have R0 := Lib.hid (rw3 w (nvA x) (nvA y) #[.int .u64 0, .int .u64 0, .int .u64 0, .int .u64 0, .int .u64 0])
  have IX := Lib.hid (infoV x)
  have IY := Lib.hid (infoV y)
  have SX := Lib.hid (size_nvA x)
  have SY := Lib.hid (size_nvA y)
  have BX := Lib.hid (nar_get (narrow_nar hx))
  have BY := Lib.hid (nar_get (narrow_nar hy))
  generalize hrx : nvA x = rx at NX R0 IX SX ⊢
  generalize hry : nvA y = ry at NY R0 IY SY ⊢
  clear hrx hry
  go_enter Tryz.func100, Tryz.ntmps100
  go_wp2_with fail
  generalize ((w.alloc (.cells rx 94 (0, 0))).alloc (.cells ry 94 (0, 0))).alloc (.cells #[.int .u64 0, .int .u64 0, .int .u64 0, .int .u64 0, .int .u64 0] 94 (0, 0)) = W at R0 ⊢
  refine wp_region_below_tail 4 (by kernel_rfl) (by kernel_rfl) ?_
  simp only [List.take_succ_cons, List.take_zero, List.drop_succ_cons, List.drop_zero]
  refine wpQuiet_load_rowF rfl 94 (.tmp 2) rfl w.heap.size rfl 94 rx (0, 0) _ ?hC Tryz.underlying94 rfl IX.out ?_
  case hC => rintro w' ⟨p, rfl⟩; exact (R0.out.on p.2).row 0
  simp only [Act.put, List.setIfInBounds_toArray, List.set_cons_zero, List.set_cons_succ]
  go_big_quiet_step (exact calls_below (NX.out _))
  refine wpQuiet_load_rowF rfl 94 (.tmp 3) rfl (w.heap.size + 1) rfl 94 ry (0, 0) _ ?hC2 Tryz.underlying94 rfl IY.out ?_
  case hC2 => rintro w' ⟨p, rfl⟩; exact (R0.out.on p.2).row 1
  simp only [Act.put, List.setIfInBounds_toArray, List.set_cons_zero, List.set_cons_succ]
  go_big_quiet_step (exact calls_below (NY.out _))
  refine wpQuiet_nil ?_
  rintro _ ⟨p, rfl⟩
  have R1 := Lib.hid (R0.out.on p.2)
  generalize p.1 = wp at R1 ⊢
  have R2 := Lib.hid ((R1.out.store 0 (nvA (narrow x))).store 1 (nvA (narrow y)))
  have R1' := Lib.hid (R1.out.store 0 (nvA (narrow x)))
  have INX := Lib.hid (infoV (narrow x))
  have INY := Lib.hid (infoV (narrow y))
  have ONX := Lib.hid (one_nvA (narrow x))
  have ONY := Lib.hid (one_nvA (narrow y))
  have LX := Lib.hid (show rx.size = (nvA (narrow x)).size by rw [SX.out]; rfl)
  have LY := Lib.hid (show ry.size = (nvA (narrow y)).size by rw [SY.out]; rfl)
  go_upto_region 2 with (first
    | (with_reducible refine wpList_store_row rfl 94 (.tmp 2) (.tmp 7) rfl w.heap.size (nvA (narrow x)) rfl rfl 94 rx ?hg1 INX.out LX.out ONX.out ?_)
    | (with_reducible refine wpList_store_row rfl 94 (.tmp 3) (.tmp 9) rfl (w.heap.size + 1) (nvA (narrow y)) rfl rfl 94 ry ?hg2 INY.out LY.out ONY.out ?_))
  case hg1 => exact R1.out.row 0
  case hg2 => exact R1'.out.row 1
  generalize (World.setRow wp w.heap.size (nvA (narrow x))).setRow (w.heap.size + 1) (nvA (narrow y)) = w2 at R2 ⊢
  have R2 := Lib.hid (show Rw w [(w.heap.size, rowF (getN (narrow x)), 94), (w.heap.size + 1, rowF (getN (narrow y)), 94), (w.heap.size + 1 + 1, #[.int .u64 0, .int .u64 0, .int .u64 0, .int .u64 0, .int .u64 0], 94)] w2 from R2.out)
  clear R0 R1 R1' NX NY IX IY INX INY ONX ONY LX LY SX SY
  have NF := Lib.hid (fun w => narrow_any (subN (narrow x) (narrow y)) (subN_ok (narrow_nar hx)) w)
  have HOP := Lib.hid (show sub x y = narrow (subN (narrow x) (narrow y)) from rfl)
  have HROW := Lib.hid (show rowF (sbG (getN (narrow x)) (getN (narrow y))) = nvA (subN (narrow x) (narrow y)) from rfl)
  generalize hX : getN (narrow x) = X at *
  generalize hY : getN (narrow y) = Y at *
  generalize subN (narrow x) (narrow y) = S at NF HOP HROW
  clear hX hY hx hy
  generalize hA : w.heap.size = ga at *
  generalize hB : ga + 1 = gb at *
  generalize hC : gb + 1 = gc at *
  clear hB hC
  have HA := Lib.hid hA
  clear hA
  have c0 := R2.out.cell 0 0 (rowF_get _ 0 (by decide))
  have c1 := R2.out.cell 1 0 (rowF_get _ 0 (by decide))
  have f0 := R2.out.free 0 0
  have b0 := BY.out 0
  have a0 := BX.out 0
  have put0 := R2.out.put 0 0 (.int .u64 ((X 0 : Int) + (4503599627370458 - (Y 0 : Int))))
  rw [show (X 0 : Int) + (4503599627370458 - (Y 0 : Int)) = ((sbG X Y 0 : Nat) : Int) by unfold sbG; rw [if_pos rfl]; omega, rowF_set _ _ _ (by decide), show upd X 0 (sbG X Y 0) = prog X (sbG X Y) 1 from by rw [← prog_set, prog_zero]] at put0
  have P0 := Lib.hid put0
  have HS0 := Lib.hid (show (X 0 : Int) + (4503599627370458 - (Y 0 : Int)) = ((sbG X Y 0 : Nat) : Int) by unfold sbG; rw [if_pos rfl]; omega)
  generalize hX0 : X 0 = x0 at c0 a0 HS0
  generalize hY0 : Y 0 = y0 at c1 b0 HS0
  clear put0 hX0 hY0
  go_wp2_with fail
  rw [HS0.out]
  generalize World.setCell _ _ _ = w3 at P0 ⊢
  clear c0 c1 f0 b0 a0
  go_loopw [5] (fun i wr => ∃ j : Nat, 1 ≤ j ∧ j ≤ 5 ∧ i = .int .i64 j ∧ Rw w [(ga, rowF (prog X (sbG X Y) j), 94), (gb, rowF Y, 94), (gc, #[.int .u64 0, .int .u64 0, .int .u64 0, .int .u64 0, .int .u64 0], 94)] wr) (fun i _ => 5 - (intOf i).toNat)
  case atStart => exact ⟨1, by omega, by omega, rfl, P0.out⟩
  case round =>
    obtain ⟨j, hj1, hj, rfl, hr⟩ := hrel
    have R3 := Lib.hid hr
    clear hr
    by_cases hlt : j < 5
    · have j1 : (j : Int) < 5 := by omega
      have j0 : (0 : Int) ≤ j := by omega
      have ca := R3.out.cell 0 j (rowF_get _ j hlt)
      have cb := R3.out.cell 1 j (rowF_get _ j hlt)
      have fa := R3.out.free 0 j
      rw [prog_at] at ca
      have bx := BX.out j
      have bby := BY.out j
      have put := R3.out.put 0 j (.int .u64 ((sbG X Y j : Nat) : Int))
      rw [rowF_set _ _ _ hlt, prog_set X (sbG X Y) j] at put
      have hs : ((sbG X Y j : Nat) : Int) = (X j : Int) + (4503599627370494 - (Y j : Int)) := by unfold sbG; rw [if_neg (by omega)]; omega
      rw [hs] at put
      have PUT := Lib.hid put
      have HLT := Lib.hid hlt
      have HJ1 := Lib.hid hj1
      generalize X j = xj at *
      generalize Y j = yj at *
      clear put hlt hs hj hj1
      go_wp2_with fail
      go_still_tail 9, (by kernel_rfl)
      go_wp2_with fail
      go_roundw
      case rel => exact ⟨j + 1, by omega, HLT.out, by go_num, PUT.out.drew⟩
      case measure => simp [intOf]; omega
    · have j1 : ¬ ((j : Int) < 5) := by omega
      have hj5 : j = 5 := by omega
      have r4 := R3.out
      rw [hj5, prog_end, HROW.out] at r4
      have R4 := Lib.hid r4
      clear r4 hj5 hlt hj R3
      have IS := Lib.hid (infoV S)
      have IN := Lib.hid (infoV (narrow S))
      have ON := Lib.hid (one_nvA (narrow S))
      have LN := Lib.hid (show (#[.int .u64 0, .int .u64 0, .int .u64 0, .int .u64 0, .int .u64 0] : Array Value).size = (nvA (narrow S)).size from rfl)
      have RW4 := Lib.hid (R4.out.row 0)
      go_wp2_with (with_reducible refine wpList_load_row rfl 94 (.tmp 2) rfl ga rfl 94 (nvA S) (0, 0) _ RW4.out Tryz.underlying94 rfl IS.out ?_)
      refine (NF.out _).mono ?_
      rintro e w5 ⟨rfl, hb5⟩
      have R5 := Lib.hid (R4.out.on hb5)
      have RW5 := Lib.hid (R5.out.row 2)
      clear hb5
      go_wp2_with (with_reducible refine wpList_store_row rfl 94 (.tmp 4) (.tmp 31) rfl gc (nvA (narrow S)) rfl rfl 94 #[.int .u64 0, .int .u64 0, .int .u64 0, .int .u64 0, .int .u64 0] RW5.out IN.out LN.out ON.out ?_)
      have R6 := R5.out.store 2 (nvA (narrow S))
      rw [HOP.out]
      refine bodyPost_ret (results_cell_row rfl _ _ gc 94 (nvA (narrow S)) (0, 0) _ rfl (R6.row 2) Tryz.underlying94 rfl IN.out) rfl ⟨rfl, ?_⟩
      exact R6.bel
end Go.Proofs.YtfckjilhkdlpfaaGreatDoor

namespace Go.Proofs.YtfckjilhkdlpfaaGreatDoor
open Go.RowKit MS
/-- What is carried out of the places below j, 19 more at the start. -/
def ovN (X : Nat → Nat) : Nat → Nat
  | 0 => 19
  | j + 1 => (X j + ovN X j) / 2251799813685248
def crN (X : Nat → Nat) (k : Nat) : Nat → Nat
  | 0 => k
  | j + 1 => (X j + crN X k j) / 2251799813685248
def crG (X : Nat → Nat) (k j : Nat) : Nat := (X j + crN X k j) % 2251799813685248
theorem ovN_le (X : Nat → Nat) (h : ∀ j, X j < 2251799813947392) (j : Nat) : ovN X j ≤ 19 := by
  induction j with
  | zero => exact Nat.le_refl _
  | succ j ih => have := h j; rw [ovN]; omega
theorem ovN_1 (X : Nat → Nat) (h : ∀ j, X j < 2251799813947392) (j : Nat) : ovN X (j + 1) ≤ 1 := by
  have := h j; have := ovN_le X h j; rw [ovN]; omega
theorem crN_le (X : Nat → Nat) (h : ∀ j, X j < 2251799813947392) (k : Nat) (hk : k ≤ 19) (j : Nat) : crN X k j ≤ 19 := by
  induction j with
  | zero => exact hk
  | succ j ih => have := h j; rw [crN]; omega
theorem over_ovN (x : N5) : over x = ovN (getN x) 5 := by
  simp only [over, ovN, getN, Nat.add_comm]
theorem row_carried (x : N5) (k : Nat) : rowF (crG (getN x) k) = nvA (carried x k) := rfl
theorem rw2 (w : World) (r0 r1 : Array Value) : Rw w [(w.heap.size, r0, 94), (w.heap.size + 1, r1, 94)] ((w.alloc (.cells r0 94 (0, 0))).alloc (.cells r1 94 (0, 0))) := by
  have h := ((Rw.nil w).alloc r0 94).alloc r1 94
  simpa using h

set_option maxRecDepth 100000 in
set_option maxHeartbeats 1000000 in
theorem least_any (x : N5) (hx : x.ok) (w : World) :
    Calls Tryz.prog 102 #[.agg (nvA x)] w fun e w' => e = .returned (.agg (nvA (least x))) ∧ Below w.heap.size w w' := by
  have NX := Lib.hid (fun w => narrow_any x hx w)
  have R0 := Lib.hid (rw2 w (nvA x) #[.int .u64 0, .int .u64 0, .int .u64 0, .int .u64 0, .int .u64 0])
  have IX := Lib.hid (infoV x)
  have SX := Lib.hid (size_nvA x)
  have BX := Lib.hid (nar_get (narrow_nar hx))
  have IN := Lib.hid (infoV (narrow x))
  have ON := Lib.hid (one_nvA (narrow x))
  have HRES := Lib.hid (show rowF (crG (getN (narrow x)) (19 * ovN (getN (narrow x)) 5)) = nvA (least x) by rw [row_carried, least, over_ovN])
  have IL := Lib.hid (infoV (least x))
  have OL := Lib.hid (one_nvA (least x))
  have LL := Lib.hid (show (#[.int .u64 0, .int .u64 0, .int .u64 0, .int .u64 0, .int .u64 0] : Array Value).size = (nvA (least x)).size from rfl)
  have HV := Lib.hid (nvA_row (narrow x))
  generalize hrx : nvA x = rx at NX R0 IX SX ⊢
  have LX := Lib.hid (show rx.size = (nvA (narrow x)).size by rw [SX.out]; rfl)
  generalize hn : nvA (narrow x) = rn at NX IN ON LX HV ⊢
  generalize hl : nvA (least x) = rl at HRES IL OL LL ⊢
  generalize hX : getN (narrow x) = X at *
  clear hrx hn hl hX hx
  go_enter Tryz.func102, Tryz.ntmps102
  go_upto_region 1 with fail
  generalize (w.alloc (.cells rx 94 (0, 0))).alloc (.cells #[.int .u64 0, .int .u64 0, .int .u64 0, .int .u64 0, .int .u64 0] 94 (0, 0)) = W at R0 ⊢
  have RW0 := Lib.hid (R0.out.row 0)
  go_wp2_with (with_reducible refine wpList_load_row rfl 94 (.tmp 1) rfl w.heap.size rfl 94 rx (0, 0) _ RW0.out Tryz.underlying94 rfl IX.out ?_)
  refine (NX.out _).mono ?_
  rintro e w5 ⟨rfl, hb5⟩
  have R1 := Lib.hid (R0.out.on hb5)
  have RW1 := Lib.hid (R1.out.row 0)
  have R2 := Lib.hid (R1.out.store 0 rn)
  clear hb5
  go_upto_region 2 with (with_reducible refine wpList_store_row rfl 94 (.tmp 1) (.tmp 9) rfl w.heap.size rn rfl rfl 94 rx RW1.out IN.out LX.out ON.out ?_)
  have r3 := R2.out
  simp only [List.set_cons_zero] at r3
  generalize World.setRow w5 _ rn = w6 at r3 ⊢
  rw [HV.out] at r3
  generalize hA : w.heap.size = ga at *
  generalize hB : ga + 1 = gb at *
  clear hA hB R0 RW0 R1 RW1 R2
  have R3 := Lib.hid r3
  have c0 := r3.cell 0 0 (rowF_get _ 0 (by decide))
  have b0 := BX.out 0
  have h0 : ((X 0 : Int) + 19) / 2251799813685248 = ((ovN X 1 : Nat) : Int) := by rw [ovN, ovN]; omega
  have HO1 := Lib.hid (show ovN X 1 = ovN X 1 from rfl)
  generalize hx0 : X 0 = x0 at c0 b0 h0
  generalize ho1 : ovN X 1 = o1 at h0
  have HOO := Lib.hid ho1
  clear r3 ho1 hx0 HO1
  go_wp2_with fail
  clear c0 b0 h0
  go_loop [3, 4] (fun o i => ∃ j : Nat, 1 ≤ j ∧ j ≤ 5 ∧ i = .int .i64 j ∧ o = .int .u64 (ovN X j : Nat)) (fun _ i => 5 - (intOf i).toNat)
  case atStart => exact ⟨1, by omega, by omega, rfl, by rw [HOO.out]⟩
  case round =>
    obtain ⟨j, hj1, hj, rfl, rfl⟩ := hrel
    clear HOO
    by_cases hlt : j < 5
    · have j1 : (j : Int) < 5 := by omega
      have j0 : (0 : Int) ≤ j := by omega
      have cj := R3.out.cell 0 j (rowF_get _ j hlt)
      have bj := BX.out j
      have lo := ovN_le X BX.out j
      have hs : ((X j : Int) + (ovN X j : Int)) / 2251799813685248 = ((ovN X (j + 1) : Nat) : Int) := by rw [show ovN X (j + 1) = (X j + ovN X j) / 2251799813685248 from rfl]; omega
      have HLT := Lib.hid hlt
      have HJ1 := Lib.hid hj1
      generalize X j = xj at cj bj hs
      generalize ovN X j = oj at lo hs
      generalize ho : ovN X (j + 1) = oj1 at hs
      have HO := Lib.hid ho
      clear hlt hj1 hj ho
      go_wp2_with fail
      go_round
      case rel => exact ⟨j + 1, by omega, HLT.out, by go_num, by rw [HO.out]⟩
      case measure => simp [intOf]; omega
    · have j1 : ¬ ((j : Int) < 5) := by omega
      have hj5 : j = 5 := by omega
      have l1 := ovN_1 X BX.out 4
      rw [show 4 + 1 = 5 from rfl] at l1
      rw [hj5]
      have CL := Lib.hid (crN_le X BX.out (19 * ovN X 5) (by omega))
      have hk : 19 * (ovN X 5 : Int) = ((19 * ovN X 5 : Nat) : Int) := by omega
      have kk : 19 * ovN X 5 ≤ 19 := by omega
      generalize hK : 19 * ovN X 5 = k at *
      have HK := Lib.hid hk
      generalize ovN X 5 = o5 at *
      clear hj5 hlt hj1 hj hk hK
      go_wp2_with fail
      rw [HK.out]
      go_loopw [5, 26] (fun c i wr => ∃ j : Nat, j ≤ 5 ∧ i = .int .i64 j ∧ c = .int .u64 (crN X k j : Nat) ∧ Rw w [(ga, rowF (prog X (crG X k) j), 94), (gb, #[.int .u64 0, .int .u64 0, .int .u64 0, .int .u64 0, .int .u64 0], 94)] wr) (fun _ i _ => 5 - (intOf i).toNat)
      case atStart => exact ⟨0, by omega, rfl, rfl, by rw [prog_zero]; exact R3.out⟩
      case round =>
        obtain ⟨j, hj, rfl, rfl, hr⟩ := hrel
        have R4 := Lib.hid hr
        clear hr R3
        by_cases hlt : j < 5
        · have j1 : (j : Int) < 5 := by omega
          have j0 : (0 : Int) ≤ j := by omega
          have cj := R4.out.cell 0 j (rowF_get _ j hlt)
          have fj := R4.out.free 0 j
          rw [prog_at] at cj
          have bj := BX.out j
          have lo := CL.out j
          have put := R4.out.put 0 j (.int .u64 ((crG X k j : Nat) : Int))
          rw [rowF_set _ _ _ hlt, prog_set] at put
          have PUT := Lib.hid put
          have hs : ((X j : Int) + (crN X k j : Int)) / 2251799813685248 = ((crN X k (j + 1) : Nat) : Int) := by rw [show crN X k (j + 1) = (X j + crN X k j) / 2251799813685248 from rfl]; omega
          have ha : bits .and .u64 ((X j : Int) + (crN X k j : Int)) 2251799813685247 = ((crG X k j : Nat) : Int) := by
            have := and51 (X j + crN X k j) (by omega)
            rw [Int.natCast_add] at this
            exact this
          have HLT := Lib.hid hlt
          generalize X j = xj at cj bj hs ha
          generalize crN X k j = oj at lo hs ha
          generalize crG X k j = gj at PUT ha put
          generalize ho : crN X k (j + 1) = oj1 at hs
          have HO := Lib.hid ho
          clear hlt hj ho put
          go_wp2_with fail
          go_roundw
          case rel => exact ⟨j + 1, HLT.out, by go_num, by rw [HO.out], PUT.out⟩
          case measure => simp [intOf]; omega
        · have j1 : ¬ ((j : Int) < 5) := by omega
          have hj5 : j = 5 := by omega
          have r5 := R4.out
          rw [hj5, prog_end, HRES.out] at r5
          have R5 := Lib.hid r5
          have RW5 := Lib.hid (r5.row 0)
          have RW6 := Lib.hid (r5.row 1)
          clear r5 hj5 hlt hj R4
          go_wp2_with (first
            | (with_reducible refine wpList_load_row rfl 94 (.tmp 1) rfl ga rfl 94 rl (0, 0) _ RW5.out Tryz.underlying94 rfl IL.out ?_)
            | (with_reducible refine wpList_store_row rfl 94 (.tmp 2) (.tmp 41) rfl gb rl rfl rfl 94 #[.int .u64 0, .int .u64 0, .int .u64 0, .int .u64 0, .int .u64 0] RW6.out IL.out LL.out OL.out ?_))
          have R6 := R5.out.store 1 rl
          exact bodyPost_ret (results_cell_row rfl _ _ gb 94 rl (0, 0) _ rfl (R6.row 1) Tryz.underlying94 rfl IL.out) rfl ⟨rfl, R6.bel⟩
end Go.Proofs.YtfckjilhkdlpfaaGreatDoor

namespace MS
/-- The product that the round (i, j) adds. -/
def tm (X Y : Nat → Nat) (i j : Nat) : Nat := X i * (if i + j ≥ 5 then Y j * 19 else Y j)
def ix (i j : Nat) : Nat := if i + j ≥ 5 then i + j - 5 else i + j
def inn (X Y f : Nat → Nat) (i : Nat) : Nat → Nat → Nat
  | 0 => f
  | j + 1 => upd (inn X Y f i j) (ix i j) (inn X Y f i j (ix i j) + tm X Y i j)
def outr (X Y : Nat → Nat) : Nat → Nat → Nat
  | 0 => fun _ => 0
  | i + 1 => inn X Y (outr X Y i) i 5
def TB : Nat := 96342447615577040000000000000000
theorem ix_lt {i j : Nat} (hi : i < 5) (hj : j < 5) : ix i j < 5 := by unfold ix; split <;> omega
theorem tm_le {X Y : Nat → Nat} (hX : ∀ i, X i < 2251799813947392) (hY : ∀ i, Y i < 2251799813947392) (i j : Nat) : tm X Y i j ≤ TB := by
  unfold tm TB
  split
  · exact prod_lt19 (hX i) (hY j)
  · exact prod_lt1 (hX i) (hY j)
theorem inn_le {X Y f : Nat → Nat} {i C : Nat} (hX : ∀ i, X i < 2251799813947392) (hY : ∀ i, Y i < 2251799813947392) (hf : ∀ k, f k ≤ C) (j k : Nat) : inn X Y f i j k ≤ C + j * TB := by
  induction j generalizing k with
  | zero => rw [Nat.zero_mul]; exact hf k
  | succ j ih =>
    have h1 := ih k
    have h2 := ih (ix i j)
    have h3 := tm_le hX hY i j
    rw [inn, upd, Nat.succ_mul]
    split <;> omega
theorem outr_le {X Y : Nat → Nat} (hX : ∀ i, X i < 2251799813947392) (hY : ∀ i, Y i < 2251799813947392) (i k : Nat) : outr X Y i k ≤ 5 * i * TB := by
  induction i generalizing k with
  | zero => exact Nat.zero_le _
  | succ i ih =>
    have := inn_le (i := i) hX hY ih 5 k
    rw [outr, show 5 * (i + 1) = 5 * i + 5 by omega, Nat.add_mul]
    exact this
theorem inn_lt {X Y : Nat → Nat} (hX : ∀ i, X i < 2251799813947392) (hY : ∀ i, Y i < 2251799813947392) {i : Nat} (hi : i < 5) {j : Nat} (hj : j ≤ 5) (k : Nat) : inn X Y (outr X Y i) i j k ≤ 2408561190389426000000000000000000 := by
  have h1 := inn_le (i := i) hX hY (outr_le hX hY i) j k
  have h2 : 5 * i * TB + j * TB ≤ 25 * TB := by
    rw [← Nat.add_mul]; exact Nat.mul_le_mul_right _ (by omega)
  unfold TB at *
  omega
/-- A sum in two words. -/
theorem two_low (f p : Nat) : (f + p) % 18446744073709551616 = (f % 18446744073709551616 + p % 18446744073709551616) % 18446744073709551616 := Nat.add_mod _ _ _
theorem two_high (f p : Nat) : (f + p) / 18446744073709551616 = f / 18446744073709551616 + (p / 18446744073709551616 + (f % 18446744073709551616 + p % 18446744073709551616) / 18446744073709551616) := by omega
def lowF (f : Nat → Nat) : Nat → Nat := fun k => f k % 18446744073709551616
def highF (f : Nat → Nat) : Nat → Nat := fun k => f k / 18446744073709551616
theorem lowF_upd (f : Nat → Nat) (k v : Nat) : upd (lowF f) k (v % 18446744073709551616) = lowF (upd f k v) := by
  funext i
  simp only [upd, lowF]
  by_cases e : i = k <;> simp [e]
theorem highF_upd (f : Nat → Nat) (k v : Nat) : upd (highF f) k (v / 18446744073709551616) = highF (upd f k v) := by
  funext i
  simp only [upd, highF]
  by_cases e : i = k <;> simp [e]
/-- The third loop: the columns carried on. -/
def prd (F : Nat → Nat) : Nat → Nat → Nat
  | 0 => fun _ => 0
  | k + 1 => if k + 1 < 5 then upd (upd (prd F k) k (prd F k k + F k % 2251799813685248)) (k + 1) (upd (prd F k) k (prd F k k + F k % 2251799813685248) (k + 1) + F k / 2251799813685248)
    else upd (upd (prd F k) k (prd F k k + F k % 2251799813685248)) 0 (upd (prd F k) k (prd F k k + F k % 2251799813685248) 0 + 19 * (F k / 2251799813685248))
theorem prd_le {F : Nat → Nat} (hF : ∀ k, F k < 649037107316853453566312041152512) (k : Nat) (hk : k ≤ 4) (i : Nat) : prd F k i ≤ k * 290482175965396992 := by
  induction k generalizing i with
  | zero => exact Nat.zero_le _
  | succ k ih =>
    have h1 := ih (by omega) i
    have h2 := ih (by omega) k
    have h3 := ih (by omega) (k + 1)
    have h4 := hF k
    rw [prd, if_pos (by omega)]
    unfold upd
    rw [Nat.succ_mul]
    have h5 : F k / 2251799813685248 < 288230376151711744 := Nat.div_lt_of_lt_mul h4
    have h6 : F k % 2251799813685248 < 2251799813685248 := Nat.mod_lt _ (by decide)
    have h7 : F k / 2251799813685248 + F k % 2251799813685248 ≤ 290482175965396992 := Nat.le_trans (Nat.add_le_add (Nat.le_of_lt h5) (Nat.le_of_lt h6)) (by decide)
    clear h4 h5 h6 hF ih
    generalize F k / 2251799813685248 = p at *
    generalize F k % 2251799813685248 = q at *
    generalize 290482175965396992 = B at *
    generalize k * B = z at *
    repeat' split
    all_goals omega
/-- The columns of the two loops are those of the product. -/
theorem outr_end (x y : N5) (X Y : Nat → Nat) (hX : X 0 = x.a ∧ X 1 = x.b ∧ X 2 = x.c ∧ X 3 = x.d ∧ X 4 = x.e) (hY : Y 0 = y.a ∧ Y 1 = y.b ∧ Y 2 = y.c ∧ Y 3 = y.d ∧ Y 4 = y.e) :
    outr X Y 5 0 = col0 x y ∧ outr X Y 5 1 = col1 x y ∧ outr X Y 5 2 = col2 x y ∧ outr X Y 5 3 = col3 x y ∧ outr X Y 5 4 = col4 x y := by
  obtain ⟨x0, x1, x2, x3, x4⟩ := hX
  obtain ⟨y0, y1, y2, y3, y4⟩ := hY
  refine ⟨?_, ?_, ?_, ?_, ?_⟩ <;> simp [outr, inn, upd, ix, tm, x0, x1, x2, x3, x4, y0, y1, y2, y3, y4, col0, col1, col2, col3, col4]
theorem prd_end (F : Nat → Nat) : prd F 5 0 = F 0 % 2251799813685248 + 19 * (F 4 / 2251799813685248) ∧ prd F 5 1 = F 1 % 2251799813685248 + F 0 / 2251799813685248 ∧ prd F 5 2 = F 2 % 2251799813685248 + F 1 / 2251799813685248 ∧
    prd F 5 3 = F 3 % 2251799813685248 + F 2 / 2251799813685248 ∧ prd F 5 4 = F 4 % 2251799813685248 + F 3 / 2251799813685248 := by
  refine ⟨?_, ?_, ?_, ?_, ?_⟩ <;> simp [prd, upd] <;> omega
end MS

namespace Go.Proofs.YtfckjilhkdlpfaaGreatDoor
open Go.RowKit MS
def renM : Go.Shelf.Ren := ⟨fun n => if n = 264 then 104 else n, fun n => if n = 53 then 92 else if n = 46 then 90 else n, fun n => n⟩
def renA : Go.Shelf.Ren := ⟨fun n => if n = 25 then 105 else n, fun n => if n = 22 then 92 else n, fun n => n⟩
theorem laysM : Lays.n264 Tryz.prog renM := { mixed := by kernel_rfl, f264 := by kernel_rfl, t46 := by kernel_rfl, a46 := fun _ => by kernel_rfl, z46 := fun _ => by kernel_rfl, v46 := fun _ => by kernel_rfl, t53 := by kernel_rfl, a53 := fun _ => by kernel_rfl, z53 := fun _ => by kernel_rfl, v53 := fun _ => by kernel_rfl }
theorem laysA : Lays7.n25 Tryz.prog renA := { mixed := by kernel_rfl, f25 := by kernel_rfl, t22 := by kernel_rfl, a22 := fun _ => by kernel_rfl, z22 := fun _ => by kernel_rfl, v22 := fun _ => by kernel_rfl, i22 := by kernel_rfl }
theorem mul64_any (x y : Nat) (hx : x < 18446744073709551616) (hy : y < 18446744073709551616) (w : World) :
    Calls Tryz.prog 104 #[.int .u64 x, .int .u64 y] w fun e w' => e = .returned (.tuple #[.int .u64 ((x * y / 18446744073709551616 : Nat) : Int), .int .u64 ((x * y % 18446744073709551616 : Nat) : Int)]) ∧ w = w' :=
  (Any.bits_Mul64 laysM x y hx hy w).mono fun _ _ ⟨h1, h2⟩ => ⟨h1, h2.symm⟩
theorem add64_run (x y : Nat) (w : World) : (callFunc 105 #[.int .u64 x, .int .u64 y, .int .u64 0]).run Tryz.prog w = .ok (.value (.tuple #[.int .u64 (((x + y) % 18446744073709551616 : Nat) : Int), .int .u64 (((x + y) / 18446744073709551616 : Nat) : Int)])) w :=
  Any7.bits_Add64 laysA x y 0 (by decide) w
theorem run_index_rowF (T : TypeId) (hu : Tryz.prog.underlying T = some (.array 5 92)) (f : Nat → Nat) (j : Nat) (hj : j < 5) (w : World) : (Instr.index T (.agg (rowF f)) (.int .i64 j)).run Tryz.prog w = .ok (.int .u64 (f j : Nat)) w := by
  have hn : (0 : Int) ≤ j ∧ (j : Int) < 5 := by omega
  have hi : (Tryz.prog.info? 92).map (·.size) = some 1 := by kernel_rfl
  cases hq : Tryz.prog.info? 92 with
  | none => simp [hq] at hi
  | some i =>
    have hs : i.size = 1 := by simpa [hq] using hi
    simp [Instr.index, run_underlying hu, asIntOf, go_sem, sizeOf, typeInfo, hq, hs, hn]
    rw [if_pos hj, rowF_get f j hj]
    rfl
theorem rowF_high0 (X Y : Nat → Nat) : rowF (highF (outr X Y 0)) = #[.int .u64 0, .int .u64 0, .int .u64 0, .int .u64 0, .int .u64 0] := by simp [rowF, highF, outr]
theorem rowF_low0 (X Y : Nat → Nat) : rowF (lowF (outr X Y 0)) = #[.int .u64 0, .int .u64 0, .int .u64 0, .int .u64 0, .int .u64 0] := by simp [rowF, lowF, outr]
theorem rowF_zero : rowF (fun _ => 0) = #[.int .u64 0, .int .u64 0, .int .u64 0, .int .u64 0, .int .u64 0] := rfl
theorem or51 (n : Nat) (h : n < 649037107316853453566312041152512) : bits .or .u64 (((n / 18446744073709551616 : Nat) : Int) * 8192) ((n % 18446744073709551616 / 2251799813685248 : Nat) : Int) = ((n / 2251799813685248 : Nat) : Int) := by
  have h1 : n / 18446744073709551616 < 35184372088832 := by omega
  have h2 : n % 18446744073709551616 / 2251799813685248 < 8192 := by omega
  have := u64_or_nat (n / 18446744073709551616 * 8192) (n % 18446744073709551616 / 2251799813685248) (by omega) (by omega)
  rw [Int.natCast_mul, show ((8192 : Nat) : Int) = 8192 from rfl] at this
  rw [this, show (8192 : Nat) = 2 ^ 13 from rfl, ← Nat.shiftLeft_eq, ← Nat.shiftLeft_add_eq_or_of_lt (by omega), Nat.shiftLeft_eq]
  congr 1
  omega
theorem prd_le' {F : Nat → Nat} (hF : ∀ k, k < 5 → F k < 649037107316853453566312041152512) (k : Nat) (hk : k ≤ 4) (i : Nat) : prd F k i ≤ 1161928703861587968 := by
  have h := prd_le (F := fun k => if k < 5 then F k else 0) (fun k => by show (if k < 5 then F k else 0) < _; split; exact hF k ‹_›; decide) k hk i
  have e : ∀ k, k ≤ 4 → prd (fun k => if k < 5 then F k else 0) k = prd F k := by
    intro k hk
    induction k with
    | zero => rfl
    | succ k ih => rw [prd, prd, ih (by omega), if_pos (show k < 5 by omega)]
  rw [e k hk] at h
  refine Nat.le_trans h ?_
  have := Nat.mul_le_mul_right 290482175965396992 hk
  omega
theorem outr_row (x y : N5) (F : Nat → Nat) (h : F 0 = col0 x y ∧ F 1 = col1 x y ∧ F 2 = col2 x y ∧ F 3 = col3 x y ∧ F 4 = col4 x y) : rowF (prd F 5) = nvA (mulN x y) := by
  obtain ⟨h0, h1, h2, h3, h4⟩ := h
  obtain ⟨p0, p1, p2, p3, p4⟩ := prd_end F
  unfold rowF nvA mulN folded
  simp only [p0, p1, p2, p3, p4, h0, h1, h2, h3, h4]
theorem outr_lt (x y : N5) (F : Nat → Nat) (h : F 0 = col0 x y ∧ F 1 = col1 x y ∧ F 2 = col2 x y ∧ F 3 = col3 x y ∧ F 4 = col4 x y)
    (hc : col0 x y < 649037107316853453566312041152512 ∧ col1 x y < 649037107316853453566312041152512 ∧ col2 x y < 649037107316853453566312041152512 ∧ col3 x y < 649037107316853453566312041152512 ∧ col4 x y < 649037107316853453566312041152512) (k : Nat) (hk : k < 5) : F k < 649037107316853453566312041152512 := by
  obtain ⟨h0, h1, h2, h3, h4⟩ := h
  obtain ⟨c0, c1, c2, c3, c4⟩ := hc
  have : k = 0 ∨ k = 1 ∨ k = 2 ∨ k = 3 ∨ k = 4 := by omega
  rcases this with rfl | rfl | rfl | rfl | rfl
  · rw [h0]; exact c0
  · rw [h1]; exact c1
  · rw [h2]; exact c2
  · rw [h3]; exact c3
  · rw [h4]; exact c4

set_option maxRecDepth 100000 in
set_option maxHeartbeats 3000000 in
theorem femul_any (x y : N5) (hx : x.ok) (hy : y.ok) (w : World) :
    Calls Tryz.prog 72 #[.agg (nvA x), .agg (nvA y)] w fun e w' => e = .returned (.agg (nvA (mul x y))) ∧ Below w.heap.size w w' := by
  have NX := Lib.hid (fun w => narrow_any x hx w)
  have NY := Lib.hid (fun w => narrow_any y hy w)
  have R0 := Lib.hid (rw3 w (nvA x) (nvA y) #[.int .u64 0, .int .u64 0, .int .u64 0, .int .u64 0, .int .u64 0])
  have IX := Lib.hid (infoV x)
  have IY := Lib.hid (infoV y)
  have SX := Lib.hid (size_nvA x)
  have SY := Lib.hid (size_nvA y)
  have BX := Lib.hid (nar_get (narrow_nar hx))
  have BY := Lib.hid (nar_get (narrow_nar hy))
  generalize hrx : nvA x = rx at NX R0 IX SX ⊢
  generalize hry : nvA y = ry at NY R0 IY SY ⊢
  clear hrx hry
  go_enter Tryz.func72, Tryz.ntmps72
  go_wp2_with fail
  generalize ((w.alloc (.cells rx 94 (0, 0))).alloc (.cells ry 94 (0, 0))).alloc (.cells #[.int .u64 0, .int .u64 0, .int .u64 0, .int .u64 0, .int .u64 0] 94 (0, 0)) = W at R0 ⊢
  refine wp_region_below_tail 4 (by kernel_rfl) (by kernel_rfl) ?_
  simp only [List.take_succ_cons, List.take_zero, List.drop_succ_cons, List.drop_zero]
  refine wpQuiet_load_rowF rfl 94 (.tmp 2) rfl w.heap.size rfl 94 rx (0, 0) _ ?hC Tryz.underlying94 rfl IX.out ?_
  case hC => rintro w' ⟨p, rfl⟩; exact (R0.out.on p.2).row 0
  simp only [Act.put, List.setIfInBounds_toArray, List.set_cons_zero, List.set_cons_succ]
  go_big_quiet_step (exact calls_below (NX.out _))
  refine wpQuiet_load_rowF rfl 94 (.tmp 3) rfl (w.heap.size + 1) rfl 94 ry (0, 0) _ ?hC2 Tryz.underlying94 rfl IY.out ?_
  case hC2 => rintro w' ⟨p, rfl⟩; exact (R0.out.on p.2).row 1
  simp only [Act.put, List.setIfInBounds_toArray, List.set_cons_zero, List.set_cons_succ]
  go_big_quiet_step (exact calls_below (NY.out _))
  refine wpQuiet_nil ?_
  rintro _ ⟨p, rfl⟩
  have R1 := Lib.hid (R0.out.on p.2)
  generalize p.1 = wp at R1 ⊢
  have R2 := Lib.hid ((R1.out.store 0 (nvA (narrow x))).store 1 (nvA (narrow y)))
  have R1' := Lib.hid (R1.out.store 0 (nvA (narrow x)))
  have INX := Lib.hid (infoV (narrow x))
  have INY := Lib.hid (infoV (narrow y))
  have ONX := Lib.hid (one_nvA (narrow x))
  have ONY := Lib.hid (one_nvA (narrow y))
  have LX := Lib.hid (show rx.size = (nvA (narrow x)).size by rw [SX.out]; rfl)
  have LY := Lib.hid (show ry.size = (nvA (narrow y)).size by rw [SY.out]; rfl)
  go_upto_region 2 with (first
    | (with_reducible refine wpList_store_row rfl 94 (.tmp 2) (.tmp 19) rfl w.heap.size (nvA (narrow x)) rfl rfl 94 rx ?hg1 INX.out LX.out ONX.out ?_)
    | (with_reducible refine wpList_store_row rfl 94 (.tmp 3) (.tmp 21) rfl (w.heap.size + 1) (nvA (narrow y)) rfl rfl 94 ry ?hg2 INY.out LY.out ONY.out ?_))
  case hg1 => exact R1.out.row 0
  case hg2 => exact R1'.out.row 1
  generalize (World.setRow wp w.heap.size (nvA (narrow x))).setRow (w.heap.size + 1) (nvA (narrow y)) = w2 at R2 ⊢
  have R2 := Lib.hid (show Rw w [(w.heap.size, rowF (getN (narrow x)), 94), (w.heap.size + 1, rowF (getN (narrow y)), 94), (w.heap.size + 1 + 1, #[.int .u64 0, .int .u64 0, .int .u64 0, .int .u64 0, .int .u64 0], 94)] w2 from R2.out)
  clear R0 R1 R1' NX NY IX IY INX INY ONX ONY LX LY SX SY
  have NF := Lib.hid (fun w => narrow_any (mulN (narrow x) (narrow y)) (mulN_ok (narrow_nar hx) (narrow_nar hy)) w)
  have HOP := Lib.hid (show mul x y = narrow (mulN (narrow x) (narrow y)) from rfl)
  have hcol := outr_end (narrow x) (narrow y) (getN (narrow x)) (getN (narrow y)) ⟨rfl, rfl, rfl, rfl, rfl⟩ ⟨rfl, rfl, rfl, rfl, rfl⟩
  have hclt := cols_lt (narrow_nar hx) (narrow_nar hy)
  have HCOL := Lib.hid (outr_row (narrow x) (narrow y) _ hcol)
  have HCLT := Lib.hid (outr_lt (narrow x) (narrow y) _ hcol hclt)
  generalize hX : getN (narrow x) = X at *
  generalize hY : getN (narrow y) = Y at *
  generalize mulN (narrow x) (narrow y) = S at NF HOP HCOL
  clear hX hY hx hy hcol hclt
  generalize hA : w.heap.size = ga at *
  generalize hB : ga + 1 = gb at *
  generalize hC : gb + 1 = gc at *
  clear hA hB hC
  go_upto_region 3 with fail
  have r3 := (R2.out.alloc #[.int .u64 0, .int .u64 0, .int .u64 0, .int .u64 0, .int .u64 0] 93).alloc #[.int .u64 0, .int .u64 0, .int .u64 0, .int .u64 0, .int .u64 0] 93
  rw [World.size_alloc] at r3
  simp only [List.cons_append, List.nil_append] at r3
  generalize (w2.alloc (.cells #[.int .u64 0, .int .u64 0, .int .u64 0, .int .u64 0, .int .u64 0] 93 (0, 0))).alloc (.cells #[.int .u64 0, .int .u64 0, .int .u64 0, .int .u64 0, .int .u64 0] 93 (0, 0)) = w3 at r3 ⊢
  generalize w2.heap.size + 1 = gl at r3 ⊢
  generalize w2.heap.size = gh at r3 ⊢
  have R3 := Lib.hid (show Rw w [(ga, rowF X, 94), (gb, rowF Y, 94), (gc, rowF (fun _ => 0), 94), (gh, rowF (highF (outr X Y 0)), 93), (gl, rowF (lowF (outr X Y 0)), 93)] w3 from by rw [rowF_high0, rowF_low0, rowF_zero]; exact r3)
  have RA := Lib.hid (r3.row 0)
  have IX := Lib.hid (infoN X)
  have IY := Lib.hid (infoN Y)
  clear r3 R2
  go_wp2_with (with_reducible refine wpList_load_row rfl 94 (.tmp 2) rfl ga rfl 94 (rowF X) (0, 0) _ RA.out Tryz.underlying94 rfl IX.out ?_)
  clear RA
  go_loopw [23] (fun c wr => ∃ i : Nat, i ≤ 5 ∧ c = .int .i64 i ∧ Rw w [(ga, rowF X, 94), (gb, rowF Y, 94), (gc, rowF (fun _ => 0), 94), (gh, rowF (highF (outr X Y i)), 93), (gl, rowF (lowF (outr X Y i)), 93)] wr) (fun c _ => 5 - (intOf c).toNat)
  case atStart => exact ⟨0, by omega, rfl, R3.out⟩
  case round =>
    obtain ⟨i, hi, rfl, hr⟩ := hrel
    have R4 := Lib.hid hr
    have RB := Lib.hid (hr.row 1)
    clear hr R3
    by_cases hlt : i < 5
    · have i1 : (i : Int) < 5 := by omega
      have i0 : (0 : Int) ≤ i := by omega
      have hix := fun w => run_index_rowF 94 Tryz.underlying94 X i hlt w
      have HI := Lib.hid hlt
      clear hlt hi
      go_wp2_with (with_reducible refine wpList_load_row rfl 94 (.tmp 3) rfl gb rfl 94 (rowF Y) (0, 0) _ RB.out Tryz.underlying94 rfl IY.out ?_)
      clear hix RB
      obtain ⟨wo, rfl⟩ : ∃ wo : World, wo = wr := ⟨_, rfl⟩
      go_loopw [28] (fun c wr => ∃ j : Nat, j ≤ 5 ∧ c = .int .i64 j ∧ Rw w [(ga, rowF X, 94), (gb, rowF Y, 94), (gc, rowF (fun _ => 0), 94), (gh, rowF (highF (inn X Y (outr X Y i) i j)), 93), (gl, rowF (lowF (inn X Y (outr X Y i) i j)), 93)] wr) (fun c _ => 5 - (intOf c).toNat)
      case atStart => exact ⟨0, by omega, rfl, R4.out⟩
      case round =>
        obtain ⟨j, hj, rfl, hr⟩ := hrel
        have R5 := Lib.hid hr
        clear hr R4
        by_cases hlt : j < 5
        · have j1 : (j : Int) < 5 := by omega
          have j0 : (0 : Int) ≤ j := by omega
          have hiy := fun w => run_index_rowF 94 Tryz.underlying94 Y j hlt w
          have hk5 := ix_lt HI.out hlt
          have ch := R5.out.cell 3 (ix i j) (rowF_get _ _ hk5)
          have cl := R5.out.cell 4 (ix i j) (rowF_get _ _ hk5)
          have fl := R5.out.free 4 (ix i j)
          have HG := Lib.hid (inn_lt BX.out BY.out HI.out hj (ix i j))
          have HJ := Lib.hid hlt
          have hmid := R5.out.put 4 (ix i j) (.int .u64 (((inn X Y (outr X Y i) i j (ix i j) + tm X Y i j) % 18446744073709551616 : Nat) : Int))
          have ch2 := hmid.cell 3 (ix i j) (rowF_get _ _ hk5)
          have fh2 := hmid.free 3 (ix i j)
          clear hmid
          have hput := (R5.out.put 4 (ix i j) (.int .u64 (((inn X Y (outr X Y i) i j (ix i j) + tm X Y i j) % 18446744073709551616 : Nat) : Int))).put 3 (ix i j) (.int .u64 (((inn X Y (outr X Y i) i j (ix i j) + tm X Y i j) / 18446744073709551616 : Nat) : Int))
          rw [rowF_set _ _ _ hk5, rowF_set _ _ _ hk5, lowF_upd, highF_upd] at hput
          have PUT := Lib.hid hput
          clear hput
          have HBX := Lib.hid (BX.out i)
          have HBY := Lib.hid (BY.out j)
          obtain ⟨k, hk⟩ : ∃ k, ix i j = k := ⟨_, rfl⟩
          rw [hk] at ch cl fl ch2 fh2 HG PUT
          obtain ⟨f, hf⟩ : ∃ f, inn X Y (outr X Y i) i j k = f := ⟨_, rfl⟩
          rw [hf] at HG PUT ch2 fh2
          rw [show highF (inn X Y (outr X Y i) i j) k = f / 18446744073709551616 from by rw [← hf]; rfl] at ch ch2
          rw [show lowF (inn X Y (outr X Y i) i j) k = f % 18446744073709551616 from by rw [← hf]; rfl] at cl
          obtain ⟨y', hy'⟩ : ∃ y', (if i + j ≥ 5 then Y j * 19 else Y j) = y' := ⟨_, rfl⟩
          have hp : tm X Y i j = X i * y' := by rw [tm, hy']
          rw [hp] at PUT ch2 fh2
          have HY' := Lib.hid (show y' < 18446744073709551616 by rw [← hy']; have := HBY.out; split <;> omega)
          have HT := Lib.hid (show X i * y' ≤ TB by rw [← hp]; exact tm_le BX.out BY.out i j)
          have M := Lib.hid (fun w => mul64_any (X i) y' (by have := HBX.out; omega) HY'.out w)
          have HUP := Lib.hid (show upd (inn X Y (outr X Y i) i j) k (f + X i * y') = inn X Y (outr X Y i) i (j + 1) by rw [inn, hk, hf, hp])
          have hadd := add64_run (f % 18446744073709551616) (X i * y' % 18446744073709551616)
          rw [← two_low] at hadd
          have hs : (f + X i * y') / 18446744073709551616 = _ := two_high f (X i * y')
          have b1 : f / 18446744073709551616 < 200000000000000000 := by have := HG.out; omega
          have b2 : X i * y' / 18446744073709551616 < 200000000000000000 := by have := HT.out; unfold TB at this; omega
          have b3 : (f % 18446744073709551616 + X i * y' % 18446744073709551616) / 18446744073709551616 ≤ 1 := by omega
          rw [HUP.out] at PUT
          clear hf hp HT HUP
          by_cases h5 : i + j ≥ 5
          case' pos =>
            have q5 : (i : Int) + (j : Int) ≥ 5 := by omega
            have qk : (i : Int) + (j : Int) - 5 = (k : Int) := by rw [← hk, ix, if_pos h5]; omega
            have qy : (Y j : Int) * 19 = (y' : Int) := by rw [← hy', if_pos h5]; omega
            have qb : (Y j : Int) * 19 ≤ 100000000000000000 := by have := HBY.out; omega
          case' neg =>
            have q5 : ¬ ((i : Int) + (j : Int) ≥ 5) := by omega
            have qk : (i : Int) + (j : Int) = (k : Int) := by rw [← hk, ix, if_neg h5]; omega
            have qy : Y j = y' := by rw [← hy', if_neg h5]
            have qb : True := trivial
            rw [qy] at hiy
          all_goals
            have qs : ((f / 18446744073709551616 : Nat) : Int) + (((X i * y' / 18446744073709551616 : Nat) : Int) + (((f % 18446744073709551616 + X i * y' % 18446744073709551616) / 18446744073709551616 : Nat) : Int)) = (((f + X i * y') / 18446744073709551616 : Nat) : Int) := by rw [hs]; omega
            have kn : (k : Int) < 5 := by rw [← hk]; have := ix_lt HI.out HJ.out; omega
            have k0 : (0 : Int) ≤ k := by omega
            have hk9 := Lib.hid hk
            generalize (f + X i * y') / 18446744073709551616 = nh at *
            generalize (f + X i * y') % 18446744073709551616 = nl at *
            generalize (f % 18446744073709551616 + X i * y' % 18446744073709551616) / 18446744073709551616 = cc at *
            generalize f % 18446744073709551616 = f0 at *
            generalize f / 18446744073709551616 = f1 at *
            generalize X i * y' % 18446744073709551616 = p0 at *
            generalize X i * y' / 18446744073709551616 = p1 at *
            generalize X i = xi at *
            clear hs hk hy' h5 hj hlt
            go_wp2_with fail
            refine (M.out _).mono ?_
            rintro e w8 ⟨rfl, rfl⟩
            go_wp2_with fail
            go_roundw
            case rel => exact ⟨j + 1, by have := HJ.out; omega, by go_num, PUT.out⟩
            case measure => simp [intOf]; have := HJ.out; omega
        · have j1 : ¬ ((j : Int) < 5) := by omega
          have hj5 : j = 5 := by omega
          have r6 := R5.out
          rw [hj5] at r6
          have R6 := Lib.hid (show Rw w [(ga, rowF X, 94), (gb, rowF Y, 94), (gc, rowF (fun _ => 0), 94), (gh, rowF (highF (outr X Y (i + 1))), 93), (gl, rowF (lowF (outr X Y (i + 1))), 93)] wr from r6)
          clear r6 hj5 hlt hj
          go_wp2_with fail
          go_roundw
          case rel => exact ⟨i + 1, by have := HI.out; omega, by go_num, R6.out⟩
          case measure => simp [intOf]; have := HI.out; omega
    · have i1 : ¬ ((i : Int) < 5) := by omega
      have hi5 : i = 5 := by omega
      have r5 := R4.out
      rw [hi5] at r5
      generalize outr X Y 5 = F at HCOL HCLT r5
      clear hi5 hlt hi RB BX BY
      go_upto_region 20 with fail
      have r6 := r5.alloc #[.int .u64 0, .int .u64 0, .int .u64 0, .int .u64 0, .int .u64 0] 94
      generalize wr.alloc (.cells #[.int .u64 0, .int .u64 0, .int .u64 0, .int .u64 0, .int .u64 0] 94 (0, 0)) = w6 at r6 ⊢
      generalize wr.heap.size = gp at r6 ⊢
      have R6 := Lib.hid (show Rw w [(ga, rowF X, 94), (gb, rowF Y, 94), (gc, rowF (fun _ => 0), 94), (gh, rowF (highF F), 93), (gl, rowF (lowF F), 93), (gp, rowF (prd F 0), 94)] w6 from r6)
      clear r5 r6 R4
      go_wp2_with fail
      go_loopw [67] (fun c wr => ∃ k : Nat, k ≤ 5 ∧ c = .int .i64 k ∧ Rw w [(ga, rowF X, 94), (gb, rowF Y, 94), (gc, rowF (fun _ => 0), 94), (gh, rowF (highF F), 93), (gl, rowF (lowF F), 93), (gp, rowF (prd F k), 94)] wr) (fun c _ => 5 - (intOf c).toNat)
      case atStart => exact ⟨0, by omega, rfl, R6.out⟩
      case round =>
        obtain ⟨k, hk, rfl, hr⟩ := hrel
        have R7 := Lib.hid hr
        clear hr R6
        by_cases hlt : k < 5
        · have k1 : (k : Int) < 5 := by omega
          have k0 : (0 : Int) ≤ k := by omega
          have HK := Lib.hid hlt
          have ch := R7.out.cell 3 k (rowF_get _ _ hlt)
          have cl := R7.out.cell 4 k (rowF_get _ _ hlt)
          have HFB := Lib.hid (HCLT.out k hlt)
          have HPB := Lib.hid (prd_le' HCLT.out k (by omega) k)
          have HPB1 := Lib.hid (prd_le' HCLT.out k (by omega) (k + 1))
          have HPB0 := Lib.hid (prd_le' HCLT.out k (by omega) 0)
          rw [show highF F k = F k / 18446744073709551616 from rfl] at ch
          rw [show lowF F k = F k % 18446744073709551616 from rfl] at cl
          have bf1 : F k / 18446744073709551616 < 35184372088832 := by have := HFB.out; omega
          have hor := or51 (F k) HFB.out
          have hand := and51 (F k % 18446744073709551616) (Nat.mod_lt _ (by decide))
          rw [show F k % 18446744073709551616 % 2251799813685248 = F k % 2251799813685248 by omega] at hand
          have HC := Lib.hid (show F k / 2251799813685248 < 288230376151711744 from Nat.div_lt_of_lt_mul HFB.out)
          have HL := Lib.hid (show F k % 2251799813685248 < 2251799813685248 from Nat.mod_lt _ (by decide))
          have bsm : ((F k % 18446744073709551616 : Nat) : Int) / 2251799813685248 = ((F k % 18446744073709551616 / 2251799813685248 : Nat) : Int) := by omega
          obtain ⟨cr, hcr⟩ : ∃ c, F k / 2251799813685248 = c := ⟨_, rfl⟩
          obtain ⟨lo, hlo⟩ : ∃ c, F k % 2251799813685248 = c := ⟨_, rfl⟩
          rw [hcr] at hor HC
          rw [hlo] at hand HL
          have HCR := Lib.hid hcr
          have HLO := Lib.hid hlo
          generalize F k % 18446744073709551616 / 2251799813685248 = f2 at bsm hor
          obtain ⟨f0, hf0⟩ : ∃ c, F k % 18446744073709551616 = c := ⟨_, rfl⟩
          rw [hf0] at cl hand bsm
          have HF0 := Lib.hid hf0
          clear hf0
          generalize F k / 18446744073709551616 = f1 at ch hor bf1
          clear hcr hlo hlt hk
          go_upto_region 23 with fail
          go_quiet (fail)
          have R8 := Lib.hid (R7.out.drewN nq)
          generalize wr.drewN nq = w8 at R8 ⊢
          have cp := R8.out.cell 5 k (rowF_get _ _ HK.out)
          have cl := R8.out.cell 4 k (rowF_get _ _ HK.out)
          have fp := R8.out.free 5 k
          rw [show lowF F k = F k % 18446744073709551616 from rfl, HF0.out] at cl
          have put := (R8.out.put 5 k (.int .u64 ((prd F k k + F k % 2251799813685248 : Nat) : Int))).drew
          rw [rowF_set _ _ _ HK.out] at put
          have hs : ((prd F k k + F k % 2251799813685248 : Nat) : Int) = (prd F k k : Int) + (lo : Int) := by rw [HLO.out]; omega
          have PUT := Lib.hid (show _ from put)
          rw [hs] at PUT
          have bp : prd F k k ≤ 1161928703861587968 := HPB.out
          have blo := HL.out
          obtain ⟨pk, hpk⟩ : ∃ c, prd F k k = c := ⟨_, rfl⟩
          rw [hpk] at cp bp PUT
          have HPK := Lib.hid hpk
          clear hpk
          clear put hs bsm hor ch bf1
          go_upto_region 24 with fail
          go_still_tail 9, (by kernel_rfl)
          go_upto_region 25 with fail
          generalize (w8.setCell ⟨gp, k, none⟩ (.int .u64 ((pk : Int) + (lo : Int)))).drew = w9 at PUT ⊢
          have R9 := Lib.hid (show Rw w [(ga, rowF X, 94), (gb, rowF Y, 94), (gc, rowF (fun _ => 0), 94), (gh, rowF (highF F), 93), (gl, rowF (lowF F), 93), (gp, rowF (upd (prd F k) k (prd F k k + F k % 2251799813685248)), 94)] w9 from by rw [HPK.out]; exact PUT.out)
          clear PUT cp fp cl bp blo hand
          by_cases h4 : k + 1 < 5
          · have q4 : (k : Int) + 1 < 5 := by omega
            have cq := R9.out.cell 5 (k + 1) (rowF_get _ _ h4)
            have fq := R9.out.free 5 (k + 1)
            have eu : upd (prd F k) k (prd F k k + F k % 2251799813685248) (k + 1) = prd F k (k + 1) := by unfold upd; rw [if_neg (by omega)]
            have put := R9.out.put 5 (k + 1) (.int .u64 ((upd (prd F k) k (prd F k k + F k % 2251799813685248) (k + 1) + F k / 2251799813685248 : Nat) : Int))
            rw [rowF_set _ _ _ h4, show upd (upd (prd F k) k (prd F k k + F k % 2251799813685248)) (k + 1) (upd (prd F k) k (prd F k k + F k % 2251799813685248) (k + 1) + F k / 2251799813685248) = prd F (k + 1) by rw [prd, if_pos h4], eu, show ((prd F k (k + 1) + F k / 2251799813685248 : Nat) : Int) = (prd F k (k + 1) : Int) + (cr : Int) by rw [HCR.out]; omega] at put
            rw [eu] at cq
            have bq : prd F k (k + 1) ≤ 1161928703861587968 := HPB1.out
            have bcr := HC.out
            have PUT2 := Lib.hid put
            generalize prd F k (k + 1) = pq at cq bq PUT2
            have HK4 := Lib.hid h4
            clear put eu h4
            go_wp2_with fail
            go_roundw
            case rel => exact ⟨k + 1, by have := HK.out; omega, by go_num, PUT2.out⟩
            case measure => simp [intOf]; have := HK.out; omega
          · have q4 : ¬ ((k : Int) + 1 < 5) := by omega
            have cq := R9.out.cell 5 0 (rowF_get _ _ (by decide))
            have fq := R9.out.free 5 0
            have eu : upd (prd F k) k (prd F k k + F k % 2251799813685248) 0 = prd F k 0 := by unfold upd; rw [if_neg (by omega)]
            have put := R9.out.put 5 0 (.int .u64 ((upd (prd F k) k (prd F k k + F k % 2251799813685248) 0 + 19 * (F k / 2251799813685248) : Nat) : Int))
            rw [rowF_set _ _ _ (by decide), show upd (upd (prd F k) k (prd F k k + F k % 2251799813685248)) 0 (upd (prd F k) k (prd F k k + F k % 2251799813685248) 0 + 19 * (F k / 2251799813685248)) = prd F (k + 1) by rw [prd, if_neg h4], eu, show ((prd F k 0 + 19 * (F k / 2251799813685248) : Nat) : Int) = (prd F k 0 : Int) + 19 * (cr : Int) by rw [HCR.out]; omega] at put
            rw [eu] at cq
            have bq : prd F k 0 ≤ 1161928703861587968 := HPB0.out
            have bcr := HC.out
            have PUT2 := Lib.hid put
            generalize prd F k 0 = pq at cq bq PUT2
            have HK4 := Lib.hid h4
            clear put eu h4
            go_wp2_with fail
            go_roundw
            case rel => exact ⟨k + 1, by have := HK.out; omega, by go_num, PUT2.out⟩
            case measure => simp [intOf]; have := HK.out; omega
        · have k1 : ¬ ((k : Int) < 5) := by omega
          have hk5 : k = 5 := by omega
          have r8 := R7.out
          rw [hk5, HCOL.out] at r8
          have R8 := Lib.hid r8
          have RP := Lib.hid (r8.row 5)
          have IS := Lib.hid (infoV S)
          have IN := Lib.hid (infoV (narrow S))
          have ON := Lib.hid (one_nvA (narrow S))
          have LN := Lib.hid (show (rowF (fun _ => 0)).size = (nvA (narrow S)).size from rfl)
          clear r8 hk5 hlt hk R7
          go_wp2_with (with_reducible refine wpList_load_row rfl 94 (.tmp 15) rfl gp rfl 94 (nvA S) (0, 0) _ RP.out Tryz.underlying94 rfl IS.out ?_)
          refine (NF.out _).mono ?_
          rintro e w10 ⟨rfl, hb5⟩
          have R10 := Lib.hid (R8.out.on hb5)
          have RC := Lib.hid (R10.out.row 2)
          clear hb5
          go_wp2_with (with_reducible refine wpList_store_row rfl 94 (.tmp 4) (.tmp 106) rfl gc (nvA (narrow S)) rfl rfl 94 (rowF (fun _ => 0)) RC.out IN.out LN.out ON.out ?_)
          have R11 := R10.out.store 2 (nvA (narrow S))
          rw [HOP.out]
          exact bodyPost_ret (results_cell_row rfl _ _ gc 94 (nvA (narrow S)) (0, 0) _ rfl (R11.row 2) Tryz.underlying94 rfl IN.out) rfl ⟨rfl, R11.bel⟩
end Go.Proofs.YtfckjilhkdlpfaaGreatDoor
