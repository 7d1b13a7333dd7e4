/-
  mailsacklaw01.ShaDigits: the walk.
-/
import Derived.Test.YtkbfflnjbafamaaDoorShaH
import Derived.Test.YtkbfflnjbafamaaDoorShaW
import Derived.Test.YtkbfflnjbafamaaDoorBQ
namespace Go.Proofs.YtkbfflnjbafamaaDoor
open Go.RowKit MS

theorem hx_at (l : List UInt8) (n i : Nat) (h : i < n) : ((hx l n).drop (2 * i)).take 2 = [dig ((l.getD i 0).toNat / 16), dig ((l.getD i 0).toNat % 16)] := by
  induction n with
  | zero => omega
  | succ n ih =>
    have hl := length_hx l n
    rw [hx, List.append_assoc]
    by_cases hi : i < n
    · rw [List.drop_append_of_le_length (by omega), List.take_append_of_le_length (by rw [List.length_drop]; omega)]
      exact ih hi
    · obtain rfl : i = n := by omega
      rw [← hl, List.drop_left]
      rfl
theorem hex_at (s : ByteArray) (i : Nat) (h : i < s.size) : (hexB s).extract (2 * i) (2 * i + 2) = hexB (s.extract i (i + 1)) := by
  apply ls_inj
  have h1 : (s.extract i (i + 1)).size = 1 := by rw [ByteArray.size_extract]; omega
  have h2 : (ls (s.extract i (i + 1))).getD 0 0 = (ls s).getD i 0 := by
    rw [ls_extract, List.getD_eq_getElem?_getD, List.getElem?_take, if_pos (by omega), List.getElem?_drop, ← List.getD_eq_getElem?_getD, Nat.add_zero]
  rw [ls_extract, hexB, ls_bs, Nat.add_sub_cancel_left, hx_at _ _ _ h, hexB, ls_bs, h1, hx, hx, h2]
  rfl
theorem size_hexB (s : ByteArray) : (hexB s).size = 2 * s.size := by rw [hexB, size_bs, length_hx]
theorem hex_get (s : ByteArray) (i : Nat) (h : i < s.size) : (ls (hexB s)).getD (2 * i) 0 = dig (((ls s).getD i 0).toNat / 16) := by
  have := hx_at (ls s) s.size i h
  have h2 : (((hx (ls s) s.size).drop (2 * i)).take 2)[0]? = some (dig (((ls s).getD i 0).toNat / 16)) := by rw [this]; rfl
  rw [List.getElem?_take, if_pos (by omega), List.getElem?_drop, Nat.add_zero] at h2
  rw [hexB, ls_bs, List.getD_eq_getElem?_getD, h2]
  rfl
theorem dig_range (n : Nat) (h : n < 16) : 48 ≤ (dig n).toNat ∧ (dig n).toNat ≤ 102 ∧ ((dig n).toNat ≤ 57 ∨ 97 ≤ (dig n).toNat) := by
  have : ∀ n : Fin 16, 48 ≤ (dig n.1).toNat ∧ (dig n.1).toNat ≤ 102 ∧ ((dig n.1).toNat ≤ 57 ∨ 97 ≤ (dig n.1).toNat) := by decide
  exact this ⟨n, h⟩

set_option maxRecDepth 100000 in
set_option maxHeartbeats 1000000 in
theorem shadigits_any (s : ByteArray) (w : World) (G : Glob w) :
    Calls Tryd.prog 7 #[.string s] w fun e w' => e = .returned (.bool true) ∧ Below w.heap.size w w' := by
  have HG := Lib.hid G
  have A := Lib.hid (fun w G => awake01_any w G)
  clear G
  by_cases g0 : s.size > 4096
  · have t0 : decide ((s.size : Int) > 4096) = true := by simp; omega
    go_enter Tryd.func7, Tryd.ntmps7
    go_wp2_with fail
    refine (A.out _ HG.out).mono ?_
    rintro e w1 ⟨rfl, hb1⟩
    go_wp2_with fail
    go_ret
    exact ⟨rfl, hb1⟩
  have t0 : decide ((s.size : Int) > 4096) = false := by simp; omega
  have S1 := Lib.hid (fun w => hex_any s w (by omega))
  have S2 := Lib.hid (fun i w => hex_any (s.extract i (i + 1)) w (by rw [ByteArray.size_extract]; omega))
  have HX := Lib.hid (hex_at s)
  have HC := Lib.hid (fun i (h : i < s.size) => show 48 ≤ ((ls (hexB s)).getD (2 * i) 0).toNat ∧ ((ls (hexB s)).getD (2 * i) 0).toNat ≤ 102 ∧ (((ls (hexB s)).getD (2 * i) 0).toNat ≤ 57 ∨ 97 ≤ ((ls (hexB s)).getD (2 * i) 0).toNat) by
    rw [hex_get s i h]
    exact dig_range _ (by have := UInt8.toNat_lt ((ls s).getD i 0); omega))
  have hz := size_hexB s
  generalize hexB s = H at S1 HX HC hz
  have z1 : ((H.size : Int) != 2 * (s.size : Int)) = false := by simp; omega
  have HZ := Lib.hid hz
  have sb : (s.size : Int) ≤ 4096 := by omega
  clear g0 hz
  go_enter Tryd.func7, Tryd.ntmps7
  go_wp2_with fail
  refine (S1.out _).mono ?_
  rintro e w1 ⟨rfl, hb1⟩
  have B1 := Lib.hid hb1
  clear hb1
  go_wp2_with fail
  clear z1
  go_loopw [19] (fun i wr => ∃ j : Nat, j ≤ s.size ∧ i = .int .i64 j ∧ Below w.heap.size w wr) (fun i _ => s.size - (intOf i).toNat)
  case atStart => exact ⟨0, Nat.zero_le _, rfl, B1.out⟩
  case round =>
    obtain ⟨j, hj, rfl, hb⟩ := hrel
    have B2 := Lib.hid hb
    clear hb
    by_cases hlt : j < s.size
    · have j1 : (j : Int) < s.size := by omega
      have j0 : (0 : Int) ≤ j := by omega
      have j2 : (j : Int) + 1 ≤ s.size := by omega
      have k0 : (0 : Int) ≤ 2 * (j : Int) := by omega
      have k1 : 2 * (j : Int) + 2 ≤ H.size := by rw [HZ.out]; omega
      have k2 : 2 * (j : Int) < H.size := by rw [HZ.out]; omega
      have ex := HX.out j hlt
      obtain ⟨c1, c2, c3⟩ := HC.out j hlt
      have hgd := ls_get H (2 * j) (by rw [HZ.out]; omega)
      have HLT := Lib.hid hlt
      have S3 := Lib.hid (S2.out j)
      generalize (ls H).getD (2 * j) 0 = c at c1 c2 c3 hgd
      generalize hexB (s.extract j (j + 1)) = X at ex S3
      have d1 : ¬ ((c.toNat : Int) > 102) := by omega
      have d2 : ¬ ((c.toNat : Int) < 48) := by omega
      have d4 : decide ((c.toNat : Int) > 102) = false := by simpa using d1
      have d5 : decide ((c.toNat : Int) < 48) = false := by simpa using d2
      clear S2
      rcases c3 with c3 | c3
      case' inl => have d3 : decide ((c.toNat : Int) > 57) = false := by simp; omega
      case' inr => have d3 : decide ((c.toNat : Int) > 57) = true := by simp; omega
      case' inr => have d6 : decide ((c.toNat : Int) < 97) = false := by simp; omega
      all_goals
        clear c1 c2 c3
        go_wp2_with fail
        refine wp_region_below (by kernel_rfl) (by kernel_rfl) ?_
        repeat (go_big_quiet_step (exact calls_below (S3.out _)))
        refine wpQuiet_nil ?_
        rintro _ ⟨p, rfl⟩
        have HP := Lib.hid p.2
        generalize p.1 = wp at HP ⊢
        go_wp2_with fail
        go_roundw
        case rel => exact ⟨j + 1, HLT.out, by go_num, B2.out.trans (HP.out.mono B2.out.size)⟩
        case measure => simp [intOf]; omega
    · have j1 : ¬ ((j : Int) < s.size) := by omega
      clear hlt
      go_wp2_with fail
      refine (A.out _ (HG.out.on B2.out)).mono ?_
      rintro e w3 ⟨rfl, hb⟩
      have B3 := Lib.hid (B2.out.trans (hb.mono B2.out.size))
      clear hb
      go_wp2_with fail
      go_ret
      exact ⟨rfl, B3.out⟩
end Go.Proofs.YtkbfflnjbafamaaDoor
