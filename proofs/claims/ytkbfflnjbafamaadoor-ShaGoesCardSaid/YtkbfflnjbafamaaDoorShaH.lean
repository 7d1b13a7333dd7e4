/-
  sha.Hex and mailsackref01.Hex: the walks.
-/
import Derived.Test.YtkbfflnjbafamaaDoorShaB
import Derived.Lib.SmallJoins
namespace Go.Proofs.YtkbfflnjbafamaaDoor
open Go.RowKit MS

def digs : ByteArray := ByteArray.mk #[48, 49, 50, 51, 52, 53, 54, 55, 56, 57, 97, 98, 99, 100, 101, 102]
def dig (n : Nat) : UInt8 := (ls digs).getD n 0
def hx (l : List UInt8) : Nat → List UInt8
  | 0 => []
  | i + 1 => hx l i ++ [dig ((l.getD i 0).toNat / 16)] ++ [dig ((l.getD i 0).toNat % 16)]
theorem length_hx (l : List UInt8) (i : Nat) : (hx l i).length = 2 * i := by
  induction i with
  | zero => rfl
  | succ i ih => simp [hx, ih]; omega
/-- The digits of a text. -/
def hexB (s : ByteArray) : ByteArray := bs (hx (ls s) s.size)
theorem two_cell (w : World) (x y : Value) (T : Nat) : ∀ j u, [x, y][j]? = some u → (w.alloc (.cells #[x, y] T (0, 0))).cell? ((⟨w.heap.size, 0, none⟩ : Addr).add j) = some u := by
  intro j u hu
  have h := cell_of_row (w.alloc (.cells #[x, y] T (0, 0))) w.heap.size j #[x, y] T (0, 0) (MapKept.heap_alloc w _).1
  have e : (⟨w.heap.size, 0, none⟩ : Addr).add j = ⟨w.heap.size, j, none⟩ := by unfold Addr.add; split <;> simp_all
  rw [e, h, ← hu]
  simp
theorem and15 (n : Nat) (h : n < 256) : bits .and .u8 (n : Int) 15 = (n : Int) % 16 := by
  have := u8_and_nat n 15 h (by decide)
  rw [show ((15 : Nat) : Int) = 15 from rfl] at this
  rw [this, show (15 : Nat) = 2 ^ 4 - 1 from rfl, Nat.and_two_pow_sub_one_eq_mod, Int.natCast_emod]
  rfl
theorem dig_get (n : Nat) (h : n < (ByteArray.mk #[48, 49, 50, 51, 52, 53, 54, 55, 56, 57, 97, 98, 99, 100, 101, 102]).size) : (ByteArray.mk #[48, 49, 50, 51, 52, 53, 54, 55, 56, 57, 97, 98, 99, 100, 101, 102])[n]'h = dig n := ls_get digs n h

set_option maxRecDepth 100000 in
set_option maxHeartbeats 1000000 in
theorem hex_any (s : ByteArray) (w : World) (hs : s.size ≤ 100000) :
    Calls Tryd.prog 22 #[.string s] w fun e w' => e = .returned (.string (hexB s)) ∧ Below w.heap.size w w' := by
  obtain ⟨i8, hj0, hy0, hy1, hy2⟩ : ∃ i, Tryd.prog.info? 5 = some i ∧ i.zero = some (.int .u8 0) ∧ i.size = 1 ∧ i.bytes = 1 := ⟨_, rfl, rfl, rfl, rfl⟩
  have HS := Lib.hid hs
  have sb : (s.size : Int) ≤ 100000 := by omega
  have sn : (0 : Int) ≤ s.size := by omega
  clear hs
  go_enter Tryd.func22, Tryd.ntmps22
  have HB1 := Lib.hid (show i8.bytes * (2 * s.size) ≤ 281474976710656 by rw [hy2]; have := HS.out; omega)
  have HB2 := Lib.hid (show 2 * s.size ≤ maxLen by have := HS.out; unfold maxLen; omega)
  have HB3 := Lib.hid (show (2 : Int) * (s.size : Int) = ((2 * s.size : Nat) : Int) by omega)
  go_wp2_with (with_reducible refine wpList_make_own _ rfl (.const (.int .i64 0)) (.tmp 7) 33 rfl w.heap.size 5 i8 (.int .u8 0) 1 Tryd.underlying33 hj0 hy0 hy1 .i64 .i64 (2 * (s.size : Int)) (2 * s.size) rfl rfl HB3.out HB1.out HB2.out (Nat.le_refl _) ?_)
  intro w1 g1 g2
  have HBW := Lib.hid ((Below.refl w.heap.size w).grown g2 (Nat.le_refl _) (by intro k e; cases e))
  have HG1 := Lib.hid g1
  clear g1 g2
  go_wp2_with fail
  go_loopw [3, 11] (fun v i wr => ∃ j : Nat, j ≤ s.size ∧ i = .int .i64 j ∧ (∃ g cap, v = .slice (some ⟨g, 0, none⟩) (2 * j) cap) ∧ wr.ownsRow w.heap.size 5 1 v (2 * j) (vls (hx (ls s) j)) ∧ Below w.heap.size w wr) (fun _ i _ => s.size - (intOf i).toNat)
  case atStart => exact ⟨0, by omega, rfl, ⟨_, _, rfl⟩, HG1.out, HBW.out⟩
  case round =>
    obtain ⟨j, hj, rfl, hv, hown, hnx⟩ := hrel
    have HOWN := Lib.hid hown
    have HNX := Lib.hid hnx
    have HVV := Lib.hid hv
    clear hown hnx hv
    by_cases hjN : j < s.size
    · have ji : (j : Int) < s.size := Int.ofNat_lt.2 hjN
      have jn : (0 : Int) ≤ j := Int.natCast_nonneg j
      have HJN := Lib.hid hjN
      have x0 : (0 : Int) ≤ ((s[j]'hjN).toNat : Int) := by omega
      have x1 : ((s[j]'hjN).toNat : Int) < 256 := by have := (s[j]'hjN).toNat_lt; omega
      have x2 : ((s[j]'hjN).toNat : Int) / 16 < 16 := by omega
      have x3 : (0 : Int) ≤ ((s[j]'hjN).toNat : Int) / 16 := by omega
      have hand := and15 (s[j]'hjN).toNat (s[j]'hjN).toNat_lt
      have x4 : ((s[j]'hjN).toNat : Int) % 16 < 16 := by omega
      have x5 : (0 : Int) ≤ ((s[j]'hjN).toNat : Int) % 16 := by omega
      go_wp2_with fail
      refine wp_region_any (by kernel_rfl) ?_
      change wpAny _ _ _ _ _ _ _ (World.drew _)
      refine wpAny_take_at (i := 0) (d := 14) (v := u3) rfl (by kernel_rfl) (by kernel_rfl) (by kernel_rfl) (fun _ _ _ h => h) rfl (Or.inl ⟨by rfl, by intro w; go_simp⟩) ?_
      simp only [Act.put, List.setIfInBounds_toArray, List.set_cons_zero, List.set_cons_succ]
      refine wpAny_quiet_mid (fun w' => ∃ k, w' = wr.drewN k) #[true, true, true, true, true, true, true, true, true, true, true, false, false, false] 1 10 3 (by kernel_rfl) (by kernel_rfl) (by kernel_rfl) (by kernel_rfl) rfl ⟨1, rfl⟩ ?_
      simp only [List.take_succ_cons, List.take_zero, List.drop_succ_cons, List.drop_zero]
      repeat (go_big_quiet_step (fail))
      refine wpQuiet_nil ?_
      intro _ hw'
      obtain ⟨kk, hw''⟩ := hw'
      subst hw''
      refine wpAny_tail 11 3 (by kernel_rfl) rfl ?_
      simp only [List.drop_succ_cons, List.drop_zero]
      rw [dig_get, dig_get]
      have HX := Lib.hid (ls_get s j hjN)
      generalize s[j]'hjN = x at HX ⊢
      have HBQ := Lib.hid (below_drewN HNX.out kk)
      have HOQ := Lib.hid (show (wr.drewN kk).ownsRow _ _ _ _ _ _ from HOWN.out)
      have hs0 : _ ≤ (wr.drewN kk).heap.size := HNX.out.size
      generalize wr.drewN kk = wq at HBQ HOQ hs0 ⊢
      generalize hd1 : dig (x.toNat / 16) = d1
      generalize hd2 : dig (x.toNat % 16) = d2
      have HD1 := Lib.hid hd1
      have HD2 := Lib.hid hd2
      have HA := Lib.hid (HOQ.out.alloc (.cells #[.int .u8 (d1.toNat : Int), .int .u8 (d2.toNat : Int)] 5 (0, 0)))
      have HM := Lib.hid (show 2 * j + 2 ≤ maxLen by have := HS.out; unfold maxLen; omega)
      have HN := Lib.hid (show (2 * j + 2) * 1 ≤ 140737488355328 by have := HS.out; omega)
      have H2 := Lib.hid (show ∀ u ∈ [Value.int .u8 (d1.toNat : Int), .int .u8 (d2.toNat : Int)], u.oneCell' = true by simp [Value.oneCell'])
      clear hd1 hd2 hand x0 x1 x2 x3 x4 x5
      go_wp2_with (at_builtin; refine wpList_append_own _ rfl (.tmp 14) (.tmp 25) 33 rfl _ 5 i8 (.int .u8 0) 1 1 Tryd.underlying33 hj0 hy0 hy1 hy2 rfl (by decide) _ _ _ rfl HA.out ⟨wq.heap.size, 0, none⟩ 2 2 [.int .u8 (d1.toNat : Int), .int .u8 (d2.toNat : Int)] rfl rfl (two_cell wq _ _ _) H2.out HM.out HN.out (le_alloc hs0 _) ?_)
      intro v1 w1 h1 h2 h3
      have HB1' := Lib.hid (below_app HBQ.out _ _ _ _ _ HOQ.out h2)
      have HO1 := Lib.hid h1
      clear h1 h2 h3 hs0
      go_wp2_with fail
      go_roundw
      case rel =>
        obtain ⟨g, cap, hg, _⟩ := HO1.out.form (by omega)
        refine ⟨j + 1, by omega, by go_num, ⟨g, cap, hg⟩, ?_, HB1'.out⟩
        have := HO1.out
        rw [hx, vls_app, vls_app, ← HX.out, HD1.out, HD2.out, show 2 * (j + 1) = 2 * j + 2 by omega]
        simpa only [List.append_assoc, List.cons_append, List.nil_append, valB] using this
      case measure => simp [intOf]; omega
    · have ji : ¬ ((j : Int) < s.size) := by omega
      have hjs : j = s.size := by omega
      have HO6 := HOWN.out
      obtain ⟨g, cap, rfl⟩ := HVV.out
      rw [hjs] at HO6 ⊢
      have hcv := conv_out (hx (ls s) s.size) (2 * s.size) (length_hx _ _) HO6
      have HF := Lib.hid HNX.out
      clear HO6 hjs hjN HOWN HNX HVV
      go_wp2_with fail
      go_ret
      exact ⟨rfl, HF.out⟩

theorem ext1 (n : Nat) (h : n < 16) : digs.extract n (n + 1) = bs [dig n] := by
  apply ls_inj
  rw [ls_extract, ls_bs, show n + 1 - n = 1 by omega]
  have hl : (ls digs).length = 16 := rfl
  rw [List.drop_eq_getElem_cons (by omega), List.take_succ_cons, List.take_zero, dig, List.getD_eq_getElem?_getD, List.getElem?_eq_getElem (by omega)]
  rfl
theorem hx_succ (l : List UInt8) (j : Nat) (x : UInt8) (h : x = l.getD j 0) : (bs (hx l j) ++ bs [dig (x.toNat / 16)]) ++ bs [dig (x.toNat % 16)] = bs (hx l (j + 1)) := by
  rw [bs_append, bs_append, hx, h]

set_option maxRecDepth 100000 in
set_option maxHeartbeats 1000000 in
theorem rhex_any (s : ByteArray) (w : World) (hs : s.size ≤ 100000) :
    Calls Tryd.prog 23 #[.string s] w fun e w' => e = .returned (.string (hexB s)) ∧ Below w.heap.size w w' := by
  have HS := Lib.hid hs
  have sb : (s.size : Int) ≤ 100000 := by omega
  clear hs
  go_enter Tryd.func23, Tryd.ntmps23
  go_wp2_with fail
  go_loopw [4, 5] (fun v i wr => ∃ (j : Nat) (b : ByteArray), j ≤ s.size ∧ i = .int .i64 j ∧ v = .string b ∧ b = bs (hx (ls s) j) ∧ b.size = 2 * j ∧ Below w.heap.size w wr) (fun _ i _ => s.size - (intOf i).toNat)
  case atStart => exact ⟨0, ⟨#[]⟩, by omega, rfl, rfl, rfl, rfl, Below.refl _ _⟩
  case round =>
    obtain ⟨j, b, hj, rfl, rfl, hb, hbs, hnx⟩ := hrel
    have HB := Lib.hid hb
    have HNX := Lib.hid hnx
    clear hb hnx
    by_cases hjN : j < s.size
    · have ji : (j : Int) < s.size := Int.ofNat_lt.2 hjN
      have jn : (0 : Int) ≤ j := Int.natCast_nonneg j
      have HX := Lib.hid (ls_get s j hjN)
      have y0 : (0 : Int) ≤ ((s[j]'hjN).toNat : Int) := by omega
      have y1 : ((s[j]'hjN).toNat : Int) < 256 := by have := (s[j]'hjN).toNat_lt; omega
      go_wp2_with fail
      clear y0 y1
      generalize s[j]'hjN = x at HX ⊢
      have x0 : (0 : Int) ≤ (x.toNat : Int) := by omega
      have x1 : (x.toNat : Int) < 256 := by have := x.toNat_lt; omega
      obtain ⟨q, hq⟩ : ∃ q, q = x.toNat / 16 := ⟨_, rfl⟩
      obtain ⟨r, hr⟩ : ∃ r, r = x.toNat % 16 := ⟨_, rfl⟩
      have q1 : q < 16 := by have := x.toNat_lt; omega
      have r1 : r < 16 := by omega
      have tq : (x.toNat : Int).tdiv 16 = (q : Int) := by
        rw [Int.tdiv_eq_ediv_of_nonneg x0]; omega
      have tr : (x.toNat : Int).tmod 16 = (r : Int) := by
        rw [Int.tmod_eq_emod_of_nonneg x0]; omega
      have q2 : (q : Int) + 1 ≤ 16 := by omega
      have q3 : (0 : Int) ≤ q := by omega
      have r2 : (r : Int) + 1 ≤ 16 := by omega
      have r3 : (0 : Int) ≤ r := by omega
      have EQ := Lib.hid (ext1 q q1)
      have ER := Lib.hid (ext1 r r1)
      have HQ := Lib.hid hq
      have HR := Lib.hid hr
      clear hq hr q1 r1
      go_quiet (fail)
      have E := Lib.hid (show (b ++ digs.extract q (q + 1)) ++ digs.extract r (r + 1) = bs (hx (ls s) (j + 1)) by
        rw [EQ.out, ER.out, HB.out, HQ.out, HR.out]
        exact hx_succ _ j x HX.out)
      go_wp2_with fail
      go_roundw
      case rel => exact ⟨j + 1, _, by omega, by go_num, rfl, E.out, (congrArg ByteArray.size E.out).trans (by rw [size_bs, length_hx]), below_drewN HNX.out _⟩
      case measure => simp [intOf]; omega
    · have ji : ¬ ((j : Int) < s.size) := by omega
      have hjs : j = s.size := by omega
      have hb := HB.out
      rw [hjs] at hb
      have HE := Lib.hid (show b = hexB s from hb)
      clear hjs hjN hb
      go_wp2_with fail
      go_ret
      exact ⟨by rw [HE.out]; rfl, HNX.out⟩
end Go.Proofs.YtkbfflnjbafamaaDoor
