/-
  seal.Unpad: the walk.
-/
import Derived.Test.YtfckjilhkdlpfaaDoorSeB
namespace Go.Proofs.YtfckjilhkdlpfaaDoor
open Go.RowKit MS

/-- What Unpad hands back. -/
def unpadV : Option ByteArray → Value
  | some t => .tuple #[.string t, .int .i64 0]
  | none => .tuple #[.string ⟨#[]⟩, .int .i64 3]
theorem ofInt_i64S (a : Nat) (ha : a < 9223372036854775808) : (BitVec.ofInt 64 (a : Int)).toNat = a := by
  rw [BitVec.ofInt_natCast, BitVec.toNat_ofNat]; exact Nat.mod_eq_of_lt (by omega)
theorem i64_or_natS (a b : Nat) (ha : a < 9223372036854775808) (hb : b < 9223372036854775808) : bits .or .i64 (a : Int) (b : Int) = ((a ||| b : Nat) : Int) := by
  have hx : a ||| b < 2 ^ 63 := Nat.or_lt_two_pow (by omega) (by omega)
  show IntKind.i64.wrap ((BitVec.ofInt 64 (a : Int) ||| BitVec.ofInt 64 (b : Int)).toNat : Int) = _
  rw [BitVec.toNat_or, ofInt_i64S a ha, ofInt_i64S b hb, IntKind.wrap_i64]
  omega
theorem wrap64_in (n : Int) (h : -9223372036854775808 ≤ n ∧ n < 9223372036854775808) : wrap64 n = n := by unfold wrap64; omega
theorem len_bits (s : ByteArray) (h0 : 0 < s.size) (h1 : 1 < s.size) :
    bits .or .i64 (wrap64 (s[0]'h0).toNat) (wrap64 (wrap64 ((s[1]'h1).toNat : Int) * 256)) = ((lenB s : Nat) : Int) := by
  have b0 := (s[0]'h0).toNat_lt
  have b1 := (s[1]'h1).toNat_lt
  rw [lenB, ← ls_get s 0 h0, ← ls_get s 1 h1]
  generalize (s[0]'h0).toNat = a at *
  generalize (s[1]'h1).toNat = b at *
  have w0 : wrap64 (a : Int) = (a : Int) := wrap64_in _ (by omega)
  have w1 : wrap64 (b : Int) = (b : Int) := wrap64_in _ (by omega)
  have w2 : wrap64 ((b : Int) * 256) = ((b * 256 : Nat) : Int) := by rw [show ((b * 256 : Nat) : Int) = (b : Int) * 256 by omega]; exact wrap64_in _ (by omega)
  rw [w0, w1, w2, i64_or_natS _ _ (by omega) (by omega)]
  have := Nat.shiftLeft_add_eq_or_of_lt (b := a) (i := 8) (by omega) b
  rw [Nat.or_comm, show b * 256 = b <<< 8 by rw [Nat.shiftLeft_eq], ← this, Nat.shiftLeft_eq]
  omega
theorem rest_all (l : List UInt8) (m : Nat) (hm : l.length = m) (h : l.take m = List.replicate m 0) : l = List.replicate m 0 := by
  rw [← h, List.take_of_length_le (by omega)]

set_option maxRecDepth 100000 in
set_option maxHeartbeats 1000000 in
theorem unpad_any (s : ByteArray) (w : World) (C : Cls w) (hs : s.size ≤ 100000) :
    Calls Tryd.prog 22 #[.string s] w fun e w' => e = .returned (unpadV (unpadB s)) ∧ Below w.heap.size w w' := by
  by_cases h2 : s.size < 2
  · have HR := Lib.hid (show unpadB s = none by rw [unpadB, if_pos (.inl h2)])
    rw [HR.out]
    have s1 : (s.size : Int) < 2 := by omega
    clear h2 hs
    go_enter Tryd.func22, Tryd.ntmps22
    go_wp2_with fail
    go_ret2
    exact ⟨rfl, Below.refl _ _⟩
  · have h0 : 0 < s.size := by omega
    have h1 : 1 < s.size := by omega
    have i0 : (0 : Int) < s.size := by omega
    have i1 : (1 : Int) < s.size := by omega
    have i2 : ¬ (s.size : Int) < 2 := by omega
    have HOR := Lib.hid (len_bits s h0 h1)
    have K := Lib.hid (fun w C => class_any ((lenB s : Nat) : Int) w C)
    have HC := Lib.hid C
    have HU := Lib.hid (show unpadB s = unpadB s from rfl)
    clear C
    go_enter Tryd.func22, Tryd.ntmps22
    go_upto_region 3 with fail
    go_quiet (fail)
    rw [HOR.out]
    have B0 := Lib.hid (below_drewN (Below.refl w.heap.size w) nq)
    have C0 := Lib.hid (HC.out.on B0.out)
    generalize w.drewN nq = w0 at B0 C0 ⊢
    have HL := Lib.hid (show clsI (lenB s : Nat) ≠ s.size → unpadB s = none from fun h => by
      rw [unpadB]
      by_cases h7 : 700 < lenB s
      · rw [if_pos (.inr (.inl h7))]
      · rw [clsI_nat _ (by omega)] at h
        rw [if_pos (.inr (.inr h))])
    have HLE := Lib.hid (show clsI (lenB s : Nat) = s.size → lenB s ≤ 700 ∧ clsN (lenB s) = s.size from fun h => by
      by_cases h7 : 700 < lenB s
      · rw [clsI_big _ (.inr (by omega))] at h
        omega
      · rw [clsI_nat _ (by omega)] at h
        exact ⟨by omega, h⟩)
    clear i2 h2
    obtain ⟨n, hn⟩ : ∃ n, lenB s = n := ⟨_, rfl⟩
    rw [hn] at K HL HLE ⊢
    clear HOR HU
    have HN := Lib.hid hn
    clear hn
    go_wp2_with fail
    refine (K.out _ C0.out).mono ?_
    rintro e w1 ⟨rfl, rfl⟩
    by_cases hc : clsI (n : Nat) = s.size
    · obtain ⟨h7, hcn⟩ := HLE.out hc
      have hge := clsN_ge n h7
      have t1 : ((clsI (n : Nat) : Int) != (s.size : Int)) = false := by rw [hc]; simp
      have HB := Lib.hid (show n + 2 ≤ s.size ∧ n ≤ 700 from ⟨by omega, h7⟩)
      have n0 : (0 : Int) ≤ (n : Int) := by omega
      have e1 : wrap64 (2 + (n : Int)) = ((2 + n : Nat) : Int) := by rw [show ((2 + n : Nat) : Int) = 2 + (n : Int) by omega]; exact wrap64_in _ (by omega)
      have e2 : (2 : Int) ≤ ((2 + n : Nat) : Int) := by omega
      have e3 : ((2 + n : Nat) : Int) ≤ (s.size : Int) := by omega
      have e4 : (s.size : Int) ≤ 100000 := by omega
      have e5 : (0 : Int) ≤ ((2 + n : Nat) : Int) := by omega
      have HCN := Lib.hid hcn
      clear hc hcn hge h7
      go_upto_region 6 with fail
      go_quiet (fail)
      have B1 := Lib.hid (below_drewN B0.out nq)
      generalize w0.drewN nq = w1 at B1 ⊢
      obtain ⟨r, hr⟩ : ∃ r, s.extract (2 + n) s.size = r := ⟨_, rfl⟩
      obtain ⟨t, ht⟩ : ∃ t, s.extract 2 (2 + n) = t := ⟨_, rfl⟩
      have HT := Lib.hid (show t.size ≤ 1000000 by rw [← ht, ByteArray.size_extract]; omega)
      have HM := Lib.hid (show unpadB s = if ls r = List.replicate r.size 0 then some t else none by
        have hz : r.size = s.size - (2 + n) := by rw [← hr, ByteArray.size_extract]; omega
        rw [unpadB, HN.out, if_neg (by have := HB.out; have := HCN.out; omega), hz, ht]
        congr 1
        rw [← hr, ls_extract, List.take_of_length_le (by rw [List.length_drop, length_ls]; omega)])
      have HRS := Lib.hid (show r.size ≤ 100000 by rw [← hr, ByteArray.size_extract]; omega)
      rw [hr, ht]
      clear hr ht e1 e2 e3 e4 e5 n0 t1
      go_wp2_with fail
      have r1 : (r.size : Int) ≤ 100000 := by have := HRS.out; omega
      go_loopw [34] (fun i wr => ∃ j : Nat, j ≤ r.size ∧ i = .int .i64 j ∧ (ls r).take j = List.replicate j 0 ∧ Below w.heap.size w wr) (fun i _ => r.size - (intOf i).toNat)
      case atStart => exact ⟨0, by omega, rfl, rfl, B1.out⟩
      case round =>
        obtain ⟨j, hj, rfl, hz, hb⟩ := hrel
        have HB2 := Lib.hid hb
        have HZ := Lib.hid hz
        clear hb hz
        by_cases hja : j < r.size
        · have ji : (j : Int) < r.size := Int.ofNat_lt.2 hja
          have jn : (0 : Int) ≤ j := Int.natCast_nonneg j
          have HG := Lib.hid (ls_get r j hja)
          by_cases hx : (r[j]'hja).toNat = 0
          · have t1 : (((r[j]'hja).toNat : Int) != 0) = false := by rw [hx]; rfl
            go_wp2_with fail
            go_roundw
            case rel =>
              refine ⟨j + 1, by omega, by go_num, ?_, HB2.out⟩
              have hl := length_ls r
              rw [List.take_add_one, HZ.out, List.replicate_succ', List.getElem?_eq_getElem (by omega)]
              congr 1
              have h1 := HG.out
              rw [List.getD_eq_getElem?_getD, List.getElem?_eq_getElem (by omega), Option.getD_some] at h1
              rw [← h1, show r[j]'hja = 0 from UInt8.toNat_inj.1 hx]
              rfl
            case measure => simp [intOf]; omega
          · have t1 : (((r[j]'hja).toNat : Int) != 0) = true := by simp; omega
            have HR := Lib.hid (show unpadB s = none by
              rw [HM.out, if_neg]
              intro h
              apply hx
              rw [HG.out, h]
              simp [hja])
            clear hx
            go_wp2_with fail
            go_ret2
            exact ⟨by rw [HR.out]; rfl, HB2.out⟩
        · have ji : ¬ ((j : Int) < r.size) := by omega
          have hjj : j = r.size := by omega
          have HR := Lib.hid (show unpadB s = some t by rw [HM.out, if_pos (rest_all _ _ (length_ls r) (hjj ▸ HZ.out))])
          have CL := Lib.hid (fun w => clone_any t w HT.out)
          clear hjj hja
          go_wp2_with fail
          refine (CL.out _).mono ?_
          rintro e w2 ⟨rfl, hb2⟩
          go_wp2_with fail
          go_ret2
          exact ⟨by rw [HR.out]; rfl, HB2.out.trans (hb2.mono HB2.out.size)⟩
    · have HR := Lib.hid (HL.out hc)
      have t1 : ((clsI (n : Nat) : Int) != (s.size : Int)) = true := by simp; omega
      clear hc hs
      go_wp2_with fail
      go_ret2
      exact ⟨by rw [HR.out]; rfl, B0.out⟩
end Go.Proofs.YtfckjilhkdlpfaaDoor
