/-
  mailsacklaw02.MacFirst: the walk.
-/
import Derived.Test.YtkbfflnjbafamaaDoorMacR
namespace Go.Proofs.YtkbfflnjbafamaaDoor
open Go.RowKit MS

theorem drawB_take (sec salt info : ByteArray) (n m : Nat) (h : n ≤ m) : (drawB sec salt info m).extract 0 n = drawB sec salt info n := by
  apply ls_inj
  rw [ls_extract, drawB, drawB, ls_bs, ls_bs, List.drop_zero, List.take_take, Nat.min_eq_left (by omega), Nat.sub_zero]
  exact drO_take _ _ _ _ (by omega) _ (by omega)

set_option maxRecDepth 100000 in
set_option maxHeartbeats 1000000 in
theorem macfirst_any (a b c : ByteArray) (few more : UInt8) (w : World) (G : Glob w) :
    Calls Tryd.prog 15 #[.string a, .string b, .string c, .int .u8 (few.toNat : Int), .int .u8 (more.toNat : Int)] w fun e w' => e = .returned (.bool true) ∧ Below w.heap.size w w' := by
  have A := Lib.hid (fun w G => awake02_any w G)
  have HG := Lib.hid G
  have l1 := few.toNat_lt
  have l2 := more.toNat_lt
  generalize few.toNat = p at *
  generalize more.toNat = q at *
  clear G
  by_cases g0 : a.size > 128
  · have t0 : decide ((a.size : Int) > 128) = true := by simp; omega
    go_enter Tryd.func15, Tryd.ntmps15
    go_wp2_with fail
    refine (A.out _ HG.out).mono ?_
    rintro e w1 ⟨rfl, hb1⟩
    go_wp2_with fail
    go_ret
    exact ⟨rfl, hb1⟩
  have t0 : decide ((a.size : Int) > 128) = false := by simp; omega
  by_cases g1 : b.size > 128
  · have t1 : decide ((b.size : Int) > 128) = true := by simp; omega
    go_enter Tryd.func15, Tryd.ntmps15
    go_wp2_with fail
    refine (A.out _ HG.out).mono ?_
    rintro e w1 ⟨rfl, hb1⟩
    go_wp2_with fail
    go_ret
    exact ⟨rfl, hb1⟩
  have t1 : decide ((b.size : Int) > 128) = false := by simp; omega
  by_cases g2 : c.size > 128
  · have t2 : decide ((c.size : Int) > 128) = true := by simp; omega
    go_enter Tryd.func15, Tryd.ntmps15
    go_wp2_with fail
    refine (A.out _ HG.out).mono ?_
    rintro e w1 ⟨rfl, hb1⟩
    go_wp2_with fail
    go_ret
    exact ⟨rfl, hb1⟩
  have t2 : decide ((c.size : Int) > 128) = false := by simp; omega
  obtain ⟨n, m, hnm, hpq⟩ : ∃ n m : Nat, (n ≤ m ∧ m < 256) ∧ ((p = n ∧ q = m ∧ n < m) ∨ (p = m ∧ q = n ∧ n < m) ∨ (p = n ∧ q = n ∧ n = m)) := by
    rcases Nat.lt_trichotomy p q with h | h | h
    · exact ⟨p, q, by omega, .inl ⟨rfl, rfl, h⟩⟩
    · exact ⟨p, p, by omega, .inr (.inr ⟨rfl, by omega, rfl⟩)⟩
    · exact ⟨q, p, by omega, .inr (.inl ⟨rfl, rfl, h⟩)⟩
  have D1 := Lib.hid (fun w G => draw_yes a b c n w (by omega) (by omega) (by omega) (by omega) G)
  have D2 := Lib.hid (fun w G => draw_yes a b c m w (by omega) (by omega) (by omega) (by omega) G)
  have P1 := Lib.hid (fun w G => pass_yes a b 1 w (by decide) (by decide) (by omega) (by omega) G)
  have M1 := Lib.hid (fun w G => mac_any a (b ++ bs [0, 0, 0, 1]) w (by omega) (by rw [ByteArray.size_append, size_bs]; simp only [List.length_cons, List.length_nil]; omega) G)
  rw [← pwB_one] at M1
  generalize pwB a b 1 = one at P1 M1
  have e1 : ((drawB a b c m).extract 0 n).toList = (drawB a b c n).toList := by rw [drawB_take a b c n m hnm.1]
  have z1 : ((drawB a b c n).size : Int) = n := by rw [size_drawB]
  have z2 : ((drawB a b c m).size : Int) = m := by rw [size_drawB]
  have z3 : (n : Int) ≤ m := by omega
  have hss2 : (b.size : Int) + ((bs [0, 0, 0, 1]).size : Int) ≤ 1004 := by rw [size_bs]; simp only [List.length_cons, List.length_nil]; omega
  generalize drawB a b c n = dn at *
  generalize drawB a b c m = dm at *
  clear g0 g1 g2 hnm
  rcases hpq with ⟨rfl, rfl, h⟩ | ⟨rfl, rfl, h⟩ | ⟨rfl, rfl, h⟩
  case' inl => have h' : ¬ q < p := by omega
  case' inr.inl => have h' : ¬ p < q := by omega
  case' inr.inr => subst h
  all_goals
    go_enter Tryd.func15, Tryd.ntmps15
    go_wp2_with fail
    refine (D1.out _ HG.out).mono ?_
    rintro e w1 ⟨rfl, hb⟩
    have B1 := Lib.hid hb
    clear hb
    go_wp2_with fail
    refine (D2.out _ (HG.out.on B1.out)).mono ?_
    rintro e w2 ⟨rfl, hb⟩
    have B2 := Lib.hid (B1.out.trans (hb.mono B1.out.size))
    clear hb
    go_wp2_with fail
    refine (P1.out _ (HG.out.on B2.out)).mono ?_
    rintro e w3 ⟨rfl, hb⟩
    have B3 := Lib.hid (B2.out.trans (hb.mono B2.out.size))
    clear hb
    go_wp2_with fail
    refine (M1.out _ (HG.out.on B3.out)).mono ?_
    rintro e w4 ⟨rfl, hb⟩
    have B4 := Lib.hid (B3.out.trans (hb.mono B3.out.size))
    clear hb
    go_wp2_with fail
    refine (A.out _ (HG.out.on B4.out)).mono ?_
    rintro e w5 ⟨rfl, hb⟩
    have B5 := Lib.hid (B4.out.trans (hb.mono B4.out.size))
    clear hb
    go_wp2_with fail
    go_ret
    exact ⟨rfl, B5.out⟩
end Go.Proofs.YtkbfflnjbafamaaDoor
