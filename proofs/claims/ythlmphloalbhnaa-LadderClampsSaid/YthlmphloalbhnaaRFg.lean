/-
  mailsackref03.Add, Sub, Mul, Small: the walks.
-/
import Derived.Test.YthlmphloalbhnaaRFf
namespace Go.Proofs.Ythlmphloalbhnaa
open Go.RowKit MS

theorem Q_pow : Q' < 65536 ^ 16 := by decide
theorem mod_pow (x : Nat) : x % Q' < 65536 ^ 16 := Nat.lt_trans (Nat.mod_lt _ (by decide)) Q_pow

set_option maxRecDepth 1000000 in
set_option maxHeartbeats 1000000 in
theorem rfmul_any (u v : Nat) (va vb : Value) (ba bb : Nat) (w : World) (ha : DS w ba va 16 u) (hb : DS w bb vb 16 v) :
    Calls Try.prog 19 #[va, vb] w fun e w' => Below w.heap.size w w' ∧ ∃ r, e = .returned r ∧ DS w' 0 r 16 (u * v % Q') := by
  have H1 := Lib.hid (rtimes_any 16 16 u v _ _ _ _ w ha hb)
  have HP := Lib.hid (show u * v < 65536 ^ (16 + 16) by rw [Nat.pow_add]; exact Nat.mul_lt_mul'' ha.2.1 hb.2.1)
  clear ha hb
  go_enter Try.func19, Try.ntmps19
  go_wp2_with fail
  refine H1.out.mono ?_
  rintro e w1 ⟨hb1, r1, rfl, ho1⟩
  have D1 := Lib.hid (show DS w1 _ r1 (16 + 16) (u * v) from ⟨ho1, HP.out, by decide, by decide⟩)
  have B1 := Lib.hid hb1
  clear hb1 ho1
  go_wp2_with fail
  refine (rreduce_any _ _ _ _ _ D1.out (by decide)).mono ?_
  rintro e w2 ⟨hb2, r2, rfl, hd2⟩
  have B2 := Lib.hid (B1.out.trans (hb2.mono B1.out.size))
  have D2 := Lib.hid hd2
  clear hb2 hd2
  go_wp2_with fail
  go_ret
  exact ⟨B2.out, _, rfl, D2.out⟩

set_option maxRecDepth 1000000 in
set_option maxHeartbeats 1000000 in
theorem rfadd_any (n m u v : Nat) (va vb : Value) (ba bb : Nat) (w : World) (ha : DS w ba va n u) (hb : DS w bb vb m v) (hn : 16 ≤ n) (hn1 : n ≤ 90) (hm1 : m ≤ 90) :
    Calls Try.prog 24 #[va, vb] w fun e w' => Below w.heap.size w w' ∧ ∃ r, e = .returned r ∧ DS w' 0 r 16 ((u + v) % Q') := by
  have H1 := Lib.hid (radd_any n m u v _ _ _ _ w ha hb)
  have HN := Lib.hid (show 16 ≤ n ∧ n ≤ 90 ∧ m ≤ 90 from ⟨hn, hn1, hm1⟩)
  clear ha hb hn hn1 hm1
  go_enter Try.func24, Try.ntmps24
  go_wp2_with fail
  refine H1.out.mono ?_
  rintro e w1 ⟨hb1, r1, k1, rfl, p1, p2, p3, p4, ho1⟩
  have D1 := Lib.hid (show DS w1 _ r1 k1 (u + v) from ⟨ho1, p4, by have := HN.out; omega, by have := HN.out; omega⟩)
  have K1 := Lib.hid (show 16 ≤ k1 by have := HN.out; omega)
  have B1 := Lib.hid hb1
  clear hb1 ho1 p1 p2 p3 p4
  go_wp2_with fail
  refine (rreduce_any _ _ _ _ _ D1.out K1.out).mono ?_
  rintro e w2 ⟨hb2, r2, rfl, hd2⟩
  have B2 := Lib.hid (B1.out.trans (hb2.mono B1.out.size))
  have D2 := Lib.hid hd2
  clear hb2 hd2
  go_wp2_with fail
  go_ret
  exact ⟨B2.out, _, rfl, D2.out⟩

set_option maxRecDepth 1000000 in
set_option maxHeartbeats 1000000 in
theorem rfsub_any (u v : Nat) (va vb : Value) (ba bb : Nat) (w : World) (ha : DS w ba va 16 u) (hb : DS w bb vb 16 v) (hv : v ≤ Q') :
    Calls Try.prog 26 #[va, vb] w fun e w' => Below w.heap.size w w' ∧ ∃ r, e = .returned r ∧ DS w' 0 r 16 ((u + (Q' - v)) % Q') := by
  have HA := Lib.hid ha
  have HB := Lib.hid hb
  have HV := Lib.hid hv
  clear ha hb hv
  go_enter Try.func26, Try.ntmps26
  go_wp2_with fail
  refine (rprime_any w).mono ?_
  rintro e w1 ⟨hb1, r1, rfl, ho1⟩
  have DP := Lib.hid (show DS w1 _ r1 16 Q' from ⟨ho1, by decide, by decide, by decide⟩)
  have B1 := Lib.hid hb1
  clear hb1 ho1
  go_wp2_with fail
  refine (rminus_any Q' v _ _ _ _ _ DP.out (HB.out.on B1.out) HV.out).mono ?_
  rintro e w2 ⟨hb2, r2, rfl, ho2⟩
  have DM := Lib.hid (show DS w2 _ r2 16 (Q' - v) from ⟨ho2, Nat.lt_of_le_of_lt (Nat.sub_le _ _) Q_pow, by decide, by decide⟩)
  have B2 := Lib.hid (B1.out.trans (hb2.mono B1.out.size))
  clear hb2 ho2 DP B1
  go_wp2_with fail
  refine (radd_any 16 16 u (Q' - v) _ _ _ _ _ (HA.out.on B2.out) DM.out).mono ?_
  rintro e w3 ⟨hb3, r3, k3, rfl, p1, p2, p3, p4, ho3⟩
  have D3 := Lib.hid (show DS w3 _ r3 k3 (u + (Q' - v)) from ⟨ho3, p4, by omega, by omega⟩)
  have K3 := Lib.hid p1
  have B3 := Lib.hid (B2.out.trans (hb3.mono B2.out.size))
  clear hb3 ho3 p1 p2 p3 p4 DM B2
  go_wp2_with fail
  refine (rreduce_any _ _ _ _ _ D3.out K3.out).mono ?_
  rintro e w4 ⟨hb4, r4, rfl, hd4⟩
  have B4 := Lib.hid (B3.out.trans (hb4.mono B3.out.size))
  have D4 := Lib.hid hd4
  clear hb4 hd4
  go_wp2_with fail
  go_ret
  exact ⟨B4.out, _, rfl, D4.out⟩

theorem small_digits (n : Nat) (h : n < 65536 * 65536) : ((dgn 65536 16 0).set 0 (n % 65536)).set 1 (n / 65536) = dgn 65536 16 n := by
  apply List.ext_getElem?
  intro i
  by_cases hi : i < 16
  · rw [dg_get _ _ _ _ hi, List.getElem?_set, List.length_set, length_dgn, List.getElem?_set, length_dgn, dg_get _ _ _ _ hi]
    match i with
    | 0 => simp
    | 1 =>
      simp
      omega
    | i + 2 =>
      rw [if_neg (by omega), if_neg (by omega)]
      have : n / 65536 ^ (i + 2) = 0 := Nat.div_eq_of_lt (Nat.lt_of_lt_of_le h (by rw [Nat.pow_add, show 65536 * 65536 = 65536 ^ 2 by decide]; exact Nat.le_mul_of_pos_left _ (Nat.pow_pos (by decide))))
      rw [this]
      simp
  · rw [List.getElem?_eq_none (by simp [length_dgn]; omega), List.getElem?_eq_none (by rw [length_dgn]; omega)]

set_option maxRecDepth 1000000 in
set_option maxHeartbeats 1000000 in
theorem rfsmall_any (n : Nat) (hn : n < 4294967296) (w : World) :
    Calls Try.prog 21 #[.int .i64 (n : Int)] w fun e w' => Below w.heap.size w w' ∧ ∃ r, e = .returned r ∧ DS w' 0 r 16 n := by
  obtain ⟨i0, hi, hz0, hz1, hz2⟩ : ∃ i, Try.prog.info? 3 = some i ∧ i.zero = some (.int .i64 0) ∧ i.size = 1 ∧ i.bytes = 8 := ⟨_, rfl, rfl, rfl, rfl⟩
  have n0 : (0 : Int) ≤ (n : Int) := by omega
  have n1 : (n : Int) < 4294967296 := by omega
  have HD := Lib.hid (small_digits n (by omega))
  have HL := Lib.hid (show n < 65536 ^ 16 by omega)
  clear hn
  go_enter Try.func21, Try.ntmps21
  go_wp2_with (at_make; refine wpList_make_full w rfl (.const (.int .i64 16)) (.const (.int .i64 16)) 26 rfl w.heap.size 3 i0 (.int .i64 0) 1 Try.underlying26 hi hz0 hz1 .i64 .i64 16 16 16 rfl rfl rfl rfl (by rw [hz2]; decide) (by decide) (Nat.le_refl _) ?_)
  intro w1 h1 h2
  have R0 := Lib.hid (show TSt w.heap.size 16 w (dgn 65536 16 0) w1 from ⟨by rw [← made_zeros]; exact h1, (Below.refl w.heap.size w).grown h2 (Nat.le_refl _) (fun k hk => by cases hk)⟩)
  clear h1 h2
  have f0 := R0.out.free 0
  have f1 := R0.out.free 1
  have c0 := R0.out.cell 0 0 (by decide) (by decide)
  have c1 := R0.out.cell 1 0 (by decide) (by decide)
  have R1 := Lib.hid ((R0.out.put 0 (n % 65536) (.int .i64 ((n : Int) % 65536)) (by simp)).put 1 (n / 65536) (.int .i64 ((n : Int) / 65536)) (by simp))
  generalize w.heap.size = g at *
  go_wp2_with fail
  go_ret
  exact ⟨R1.out.bel, _, rfl, (show DS _ 0 _ 16 n from ⟨(show DS _ w.heap.size _ 16 n from ⟨by have := R1.out.own; rw [HD.out] at this; exact this, HL.out, by decide, by decide⟩).base (Nat.zero_le _) |>.1, HL.out, by decide, by decide⟩)⟩
end Go.Proofs.Ythlmphloalbhnaa
