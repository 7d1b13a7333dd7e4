/-
  mailsackref08.Unpad: the walk.
-/
import Derived.Test.YtfckjilhkdlpfaaDoorSeD
namespace Go.Proofs.YtfckjilhkdlpfaaDoor
open Go.RowKit MS

/-- What the reference's Unpad hands back. -/
def runpadV : Option ByteArray → Value
  | some t => .tuple #[.string t, .bool true]
  | none => .tuple #[.string ⟨#[]⟩, .bool false]
theorem toList_neS {a b : ByteArray} (h : a ≠ b) : (a.toList == b.toList) = false := by
  rw [beq_eq_false_iff_ne]
  intro e
  apply h
  apply ls_inj
  rw [ByteArray.toList_eq, ByteArray.toList_eq] at e
  exact e
theorem len_bitsR (s : ByteArray) (h0 : 0 < s.size) (h1 : 1 < s.size) :
    wrap64 (wrap64 ((s[0]'h0).toNat : Int) + wrap64 ((256 : Int) * wrap64 ((s[1]'h1).toNat : Int))) = ((lenB s : Nat) : Int) := by
  have b0 := (s[0]'h0).toNat_lt
  have b1 := (s[1]'h1).toNat_lt
  rw [lenB, ← ls_get s 0 h0, ← ls_get s 1 h1]
  unfold wrap64
  omega

set_option maxRecDepth 100000 in
set_option maxHeartbeats 1000000 in
theorem runpad_any (s : ByteArray) (w : World) (hs : s.size ≤ 100000) :
    Calls Tryd.prog 24 #[.string s] w fun e w' => e = .returned (runpadV (unpadB s)) ∧ Below w.heap.size w w' := by
  by_cases h2 : s.size < 2
  · have HR := Lib.hid (show unpadB s = none by rw [unpadB, if_pos (.inl h2)])
    rw [HR.out]
    have s1 : (s.size : Int) < 2 := by omega
    clear h2 hs
    go_enter Tryd.func24, Tryd.ntmps24
    go_wp2_with fail
    go_ret2
    exact ⟨rfl, Below.refl _ _⟩
  · have h0 : 0 < s.size := by omega
    have h1 : 1 < s.size := by omega
    have i0 : (0 : Int) < s.size := by omega
    have i1 : (1 : Int) < s.size := by omega
    have i2 : ¬ (s.size : Int) < 2 := by omega
    have HOR := Lib.hid (len_bitsR s h0 h1)
    have H2 := Lib.hid h2
    go_enter Tryd.func24, Tryd.ntmps24
    go_upto_region 3 with fail
    go_quiet (fail)
    rw [HOR.out]
    have B0 := Lib.hid (below_drewN (Below.refl w.heap.size w) nq)
    generalize w.drewN nq = w0 at B0 ⊢
    clear i2 h2
    obtain ⟨n, hn⟩ : ∃ n, lenB s = n := ⟨_, rfl⟩
    rw [hn]
    clear HOR
    have HN := Lib.hid hn
    clear hn
    by_cases h7 : 700 < n
    · have HR := Lib.hid (show unpadB s = none by rw [unpadB, HN.out, if_pos (.inr (.inl h7))])
      have m1 : (n : Int) > 700 := by omega
      clear h7
      go_wp2_with fail
      go_ret2
      exact ⟨by rw [HR.out]; rfl, B0.out⟩
    · have m1 : ¬ (n : Int) > 700 := by omega
      have m0 : (0 : Int) ≤ (n : Int) := by omega
      by_cases h3 : n + 2 > s.size
      · have HR := Lib.hid (show unpadB s = none by
          have := clsN_ge n (by omega)
          rw [unpadB, HN.out, if_pos (.inr (.inr (by omega)))])
        have m2 : (n : Int) + 2 > (s.size : Int) := by omega
        clear h7 h3
        go_wp2_with fail
        go_ret2
        exact ⟨by rw [HR.out]; rfl, B0.out⟩
      · have m2 : ¬ (n : Int) + 2 > (s.size : Int) := by omega
        have m3 : (2 : Int) + (n : Int) ≤ (s.size : Int) := by omega
        have m4 : (2 : Int) ≤ (2 : Int) + (n : Int) := by omega
        have m5 : (s.size : Int) ≤ 100000 := by omega
        have HT := Lib.hid (show (2 + (n : Int)).toNat = 2 + n by omega)
        have HE : s.extract 2 (2 + (n : Int)).toNat = s.extract 2 (2 + n) := by rw [HT.out]
        have hsz : (s.extract 2 (2 + n)).size ≤ 700 := by rw [ByteArray.size_extract]; omega
        have K := Lib.hid (fun w => rpad_any (s.extract 2 (2 + n)) w hsz)
        have HU := Lib.hid (unpad_some s n HN.out.symm (by omega) (by omega))
        by_cases he : spadB (s.extract 2 (2 + n)) = s
        · have HR := Lib.hid (show unpadB s = some (s.extract 2 (2 + n)) by
            obtain ⟨a, b⟩ := HU.out.1 he
            rw [unpadB, HN.out, if_neg (by omega), if_pos b])
          rw [he] at K
          generalize s.extract 2 (2 + n) = t at *
          clear h7 h3 hs he hsz
          go_wp2_with fail
          refine (K.out _).mono ?_
          rintro e w1 ⟨rfl, hb1⟩
          have B1 := Lib.hid (B0.out.trans (hb1.mono B0.out.size))
          clear hb1
          go_wp2_with fail
          go_ret2
          exact ⟨by rw [HR.out]; rfl, B1.out⟩
        · have HR := Lib.hid (show unpadB s = none by
            rw [unpadB, HN.out]
            by_cases hc : clsN n ≠ s.size
            · rw [if_pos (.inr (.inr hc))]
            · rw [if_neg (by omega), if_neg]
              exact fun h => he (HU.out.2 ⟨by omega, h⟩))
          have m6 := toList_neS he
          generalize spadB (s.extract 2 (2 + n)) = x at *
          generalize s.extract 2 (2 + n) = t at *
          clear h7 h3 hs he hsz
          go_wp2_with fail
          refine (K.out _).mono ?_
          rintro e w1 ⟨rfl, hb1⟩
          have B1 := Lib.hid (B0.out.trans (hb1.mono B0.out.size))
          clear hb1
          go_wp2_with fail
          go_ret2
          exact ⟨by rw [HR.out]; rfl, B1.out⟩
end Go.Proofs.YtfckjilhkdlpfaaDoor
