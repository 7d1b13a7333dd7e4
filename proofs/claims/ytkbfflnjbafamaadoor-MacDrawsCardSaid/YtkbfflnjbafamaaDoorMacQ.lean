/-
  mailsacklaw01.ShaSums, mailsacklaw02.MacSums, MacDraws, MacPasswords: the walks.
-/
import Derived.Test.YtkbfflnjbafamaaDoorRMacD
import Derived.Test.YtkbfflnjbafamaaDoorMacL
namespace Go.Proofs.YtkbfflnjbafamaaDoor
open Go.RowKit MS

set_option maxRecDepth 100000 in
set_option maxHeartbeats 1000000 in
theorem shasums_any (s : ByteArray) (w : World) (G : Glob w) :
    Calls Tryd.prog 3 #[.string s] w fun e w' => e = .returned (.bool true) ∧ Below w.heap.size w w' := by
  have HG := Lib.hid G
  have A := Lib.hid (fun w G => awake01_any w G)
  clear G
  by_cases g0 : s.size > 1024
  · have t0 : decide ((s.size : Int) > 1024) = true := by simp; omega
    go_enter Tryd.func3, Tryd.ntmps3
    go_wp2_with fail
    refine (A.out _ HG.out).mono ?_
    rintro e w1 ⟨rfl, hb1⟩
    go_wp2_with fail
    go_ret
    exact ⟨rfl, hb1⟩
  have t0 : decide ((s.size : Int) > 1024) = false := by simp; omega
  have S1 := Lib.hid (fun w G => sum_any s w (by omega) G)
  have S2 := Lib.hid (fun w => rsum_any s w (by omega))
  generalize sumB s = D at S1 S2
  clear g0
  go_enter Tryd.func3, Tryd.ntmps3
  go_wp2_with fail
  refine (S1.out _ HG.out).mono ?_
  rintro e w1 ⟨rfl, hb⟩
  have B1 := Lib.hid hb
  clear hb
  go_wp2_with fail
  refine (S2.out _).mono ?_
  rintro e w2 ⟨rfl, hb⟩
  have B2 := Lib.hid (B1.out.trans (hb.mono B1.out.size))
  clear hb
  go_wp2_with fail
  refine (A.out _ (HG.out.on B2.out)).mono ?_
  rintro e w3 ⟨rfl, hb⟩
  have B3 := Lib.hid (B2.out.trans (hb.mono B2.out.size))
  clear hb
  go_wp2_with fail
  go_ret
  exact ⟨rfl, B3.out⟩

set_option maxRecDepth 100000 in
set_option maxHeartbeats 1000000 in
theorem macsums_any (a b : ByteArray) (w : World) (G : Glob w) :
    Calls Tryd.prog 8 #[.string a, .string b] w fun e w' => e = .returned (.bool true) ∧ Below w.heap.size w w' := by
  have HG := Lib.hid G
  have A := Lib.hid (fun w G => awake02_any w G)
  clear G
  by_cases g0 : a.size > 512
  · have t0 : decide ((a.size : Int) > 512) = true := by simp; omega
    go_enter Tryd.func8, Tryd.ntmps8
    go_wp2_with fail
    refine (A.out _ HG.out).mono ?_
    rintro e w1 ⟨rfl, hb1⟩
    go_wp2_with fail
    go_ret
    exact ⟨rfl, hb1⟩
  have t0 : decide ((a.size : Int) > 512) = false := by simp; omega
  by_cases g1 : b.size > 512
  · have t1 : decide ((b.size : Int) > 512) = true := by simp; omega
    go_enter Tryd.func8, Tryd.ntmps8
    go_wp2_with fail
    refine (A.out _ HG.out).mono ?_
    rintro e w1 ⟨rfl, hb1⟩
    go_wp2_with fail
    go_ret
    exact ⟨rfl, hb1⟩
  have t1 : decide ((b.size : Int) > 512) = false := by simp; omega
  have S1 := Lib.hid (fun w G => mac_any a b w (by omega) (by omega) G)
  have S2 := Lib.hid (fun w => rmac_any a b w (by omega) (by omega))
  generalize macB a b = D at S1 S2
  clear g0 g1
  go_enter Tryd.func8, Tryd.ntmps8
  go_wp2_with fail
  refine (S1.out _ HG.out).mono ?_
  rintro e w1 ⟨rfl, hb⟩
  have B1 := Lib.hid hb
  clear hb
  go_wp2_with fail
  refine (S2.out _).mono ?_
  rintro e w2 ⟨rfl, hb⟩
  have B2 := Lib.hid (B1.out.trans (hb.mono B1.out.size))
  clear hb
  go_wp2_with fail
  refine (A.out _ (HG.out.on B2.out)).mono ?_
  rintro e w3 ⟨rfl, hb⟩
  have B3 := Lib.hid (B2.out.trans (hb.mono B2.out.size))
  clear hb
  go_wp2_with fail
  go_ret
  exact ⟨rfl, B3.out⟩

set_option maxRecDepth 100000 in
set_option maxHeartbeats 1000000 in
theorem macdraws_any (a b c : ByteArray) (n : Int) (_hn : -9223372036854775808 ≤ n ∧ n ≤ 9223372036854775807) (w : World) (G : Glob w) :
    Calls Tryd.prog 12 #[.string a, .string b, .string c, .int .i64 n] w fun e w' => e = .returned (.bool true) ∧ Below w.heap.size w w' := by
  have HG := Lib.hid G
  have A := Lib.hid (fun w G => awake02_any w G)
  clear G
  by_cases g0 : a.size > 128
  · have t0 : decide ((a.size : Int) > 128) = true := by simp; omega
    go_enter Tryd.func12, Tryd.ntmps12
    go_wp2_with fail
    refine (A.out _ HG.out).mono ?_
    rintro e w1 ⟨rfl, hb1⟩
    go_wp2_with fail
    go_ret
    exact ⟨rfl, hb1⟩
  have t0 : decide ((a.size : Int) > 128) = false := by simp; omega
  by_cases g1 : b.size > 128
  · have t1 : decide ((b.size : Int) > 128) = true := by simp; omega
    go_enter Tryd.func12, Tryd.ntmps12
    go_wp2_with fail
    refine (A.out _ HG.out).mono ?_
    rintro e w1 ⟨rfl, hb1⟩
    go_wp2_with fail
    go_ret
    exact ⟨rfl, hb1⟩
  have t1 : decide ((b.size : Int) > 128) = false := by simp; omega
  by_cases g2 : c.size > 128
  · have t2 : decide ((c.size : Int) > 128) = true := by simp; omega
    go_enter Tryd.func12, Tryd.ntmps12
    go_wp2_with fail
    refine (A.out _ HG.out).mono ?_
    rintro e w1 ⟨rfl, hb1⟩
    go_wp2_with fail
    go_ret
    exact ⟨rfl, hb1⟩
  have t2 : decide ((c.size : Int) > 128) = false := by simp; omega
  by_cases h1 : n < 0
  · have S1 := Lib.hid (fun w => draw_no a b c n w (.inl h1))
    have h2 : ¬ n > 300 := by omega
    go_enter Tryd.func12, Tryd.ntmps12
    go_wp2_with fail
    refine (S1.out w).mono ?_
    rintro e w1 ⟨rfl, hb⟩
    have B1 := Lib.hid hb
    clear hb
    go_wp2_with fail
    refine (A.out _ (HG.out.on B1.out)).mono ?_
    rintro e w2 ⟨rfl, hb⟩
    have B2 := Lib.hid (B1.out.trans (hb.mono B1.out.size))
    clear hb
    go_wp2_with fail
    go_ret
    exact ⟨rfl, B2.out⟩
  by_cases h2 : n > 8160
  · have S1 := Lib.hid (fun w => draw_no a b c n w (.inr h2))
    have h3 : n > 300 := by omega
    have h4 : ¬ n ≤ 8160 := by omega
    go_enter Tryd.func12, Tryd.ntmps12
    go_wp2_with fail
    refine (S1.out w).mono ?_
    rintro e w1 ⟨rfl, hb⟩
    have B1 := Lib.hid hb
    clear hb
    go_wp2_with fail
    refine (A.out _ (HG.out.on B1.out)).mono ?_
    rintro e w2 ⟨rfl, hb⟩
    have B2 := Lib.hid (B1.out.trans (hb.mono B1.out.size))
    clear hb
    go_wp2_with fail
    go_ret
    exact ⟨rfl, B2.out⟩
  by_cases h3 : n > 300
  · have h4 : n ≤ 8160 := by omega
    go_enter Tryd.func12, Tryd.ntmps12
    go_wp2_with fail
    refine (A.out _ HG.out).mono ?_
    rintro e w1 ⟨rfl, hb1⟩
    go_wp2_with fail
    go_ret
    exact ⟨rfl, hb1⟩
  obtain ⟨m, rfl⟩ : ∃ m : Nat, n = m := ⟨n.toNat, by omega⟩
  have S1 := Lib.hid (fun w G => draw_yes a b c m w (by omega) (by omega) (by omega) (by omega) G)
  have S2 := Lib.hid (fun w => rdraw_any a b c m w (by omega) (by omega) (by omega) (by omega))
  generalize drawB a b c m = D at S1 S2
  clear g0 g1 g2
  go_enter Tryd.func12, Tryd.ntmps12
  go_wp2_with fail
  refine (S1.out _ HG.out).mono ?_
  rintro e w1 ⟨rfl, hb⟩
  have B1 := Lib.hid hb
  clear hb
  go_wp2_with fail
  refine (S2.out _).mono ?_
  rintro e w2 ⟨rfl, hb⟩
  have B2 := Lib.hid (B1.out.trans (hb.mono B1.out.size))
  clear hb
  go_wp2_with fail
  refine (A.out _ (HG.out.on B2.out)).mono ?_
  rintro e w3 ⟨rfl, hb⟩
  have B3 := Lib.hid (B2.out.trans (hb.mono B2.out.size))
  clear hb
  go_wp2_with fail
  go_ret
  exact ⟨rfl, B3.out⟩

set_option maxRecDepth 100000 in
set_option maxHeartbeats 1000000 in
theorem macpass_any (a b : ByteArray) (n : Int) (_hn : -9223372036854775808 ≤ n ∧ n ≤ 9223372036854775807) (w : World) (G : Glob w) :
    Calls Tryd.prog 13 #[.string a, .string b, .int .i64 n] w fun e w' => e = .returned (.bool true) ∧ Below w.heap.size w w' := by
  have HG := Lib.hid G
  have A := Lib.hid (fun w G => awake02_any w G)
  clear G
  by_cases g0 : a.size > 128
  · have t0 : decide ((a.size : Int) > 128) = true := by simp; omega
    go_enter Tryd.func13, Tryd.ntmps13
    go_wp2_with fail
    refine (A.out _ HG.out).mono ?_
    rintro e w1 ⟨rfl, hb1⟩
    go_wp2_with fail
    go_ret
    exact ⟨rfl, hb1⟩
  have t0 : decide ((a.size : Int) > 128) = false := by simp; omega
  by_cases g1 : b.size > 128
  · have t1 : decide ((b.size : Int) > 128) = true := by simp; omega
    go_enter Tryd.func13, Tryd.ntmps13
    go_wp2_with fail
    refine (A.out _ HG.out).mono ?_
    rintro e w1 ⟨rfl, hb1⟩
    go_wp2_with fail
    go_ret
    exact ⟨rfl, hb1⟩
  have t1 : decide ((b.size : Int) > 128) = false := by simp; omega
  by_cases h1 : n < 1
  · have S1 := Lib.hid (fun w => pass_no a b n w (.inl h1))
    go_enter Tryd.func13, Tryd.ntmps13
    go_wp2_with fail
    refine (S1.out w).mono ?_
    rintro e w1 ⟨rfl, hb⟩
    have B1 := Lib.hid hb
    clear hb
    go_wp2_with fail
    refine (A.out _ (HG.out.on B1.out)).mono ?_
    rintro e w2 ⟨rfl, hb⟩
    have B2 := Lib.hid (B1.out.trans (hb.mono B1.out.size))
    clear hb
    go_wp2_with fail
    go_ret
    exact ⟨rfl, B2.out⟩
  by_cases h2 : n > 64
  · have S1 := Lib.hid (fun w => pass_no a b n w (.inr h2))
    go_enter Tryd.func13, Tryd.ntmps13
    go_wp2_with fail
    refine (S1.out w).mono ?_
    rintro e w1 ⟨rfl, hb⟩
    have B1 := Lib.hid hb
    clear hb
    go_wp2_with fail
    refine (A.out _ (HG.out.on B1.out)).mono ?_
    rintro e w2 ⟨rfl, hb⟩
    have B2 := Lib.hid (B1.out.trans (hb.mono B1.out.size))
    clear hb
    go_wp2_with fail
    go_ret
    exact ⟨rfl, B2.out⟩
  obtain ⟨m, rfl⟩ : ∃ m : Nat, n = (m + 1 : Nat) := ⟨(n - 1).toNat, by omega⟩
  have S1 := Lib.hid (fun w G => pass_yes a b (m + 1) w (by omega) (by omega) (by omega) (by omega) G)
  have S2 := Lib.hid (fun w => rpass_any a b (m + 1) w (by omega) (by omega) (by omega))
  rw [show bs (rX a b (m + 1)) = pwB a b (m + 1) from rfl] at S2
  generalize pwB a b (m + 1) = D at S1 S2
  generalize ((m + 1 : Nat) : Int) = q at *
  clear g0 g1
  go_enter Tryd.func13, Tryd.ntmps13
  go_wp2_with fail
  refine (S1.out _ HG.out).mono ?_
  rintro e w1 ⟨rfl, hb⟩
  have B1 := Lib.hid hb
  clear hb
  go_wp2_with fail
  refine (S2.out _).mono ?_
  rintro e w2 ⟨rfl, hb⟩
  have B2 := Lib.hid (B1.out.trans (hb.mono B1.out.size))
  clear hb
  go_wp2_with fail
  refine (A.out _ (HG.out.on B2.out)).mono ?_
  rintro e w3 ⟨rfl, hb⟩
  have B3 := Lib.hid (B2.out.trans (hb.mono B2.out.size))
  clear hb
  go_wp2_with fail
  go_ret
  exact ⟨rfl, B3.out⟩
end Go.Proofs.YtkbfflnjbafamaaDoor
