/-
  mailsackref03.Parts and mailsacklaw03.num: the walks.
-/
import Derived.Test.YthlmphloalbhnaaRFh
namespace Go.Proofs.Ythlmphloalbhnaa
open Go.RowKit MS

/-- Limbs of 51 bits, the d highest ones of five. -/
def horn (L : Nat → Nat) : Nat → Nat
  | 0 => 0
  | d + 1 => horn L d * 2251799813685248 + L (4 - d)
theorem horn_five (x : N5) (L : Nat → Nat) (h0 : L 0 = x.a) (h1 : L 1 = x.b) (h2 : L 2 = x.c) (h3 : L 3 = x.d) (h4 : L 4 = x.e) : horn L 5 = x.v := by
  simp only [horn, N5.v, Nat.sub_self, h0, show L (4 - 0) = L 4 from rfl, show L (4 - 1) = L 3 from rfl, show L (4 - 2) = L 2 from rfl, show L (4 - 3) = L 1 from rfl, h1, h2, h3, h4]
  omega
theorem four_digits (x : Nat) (h : x < 18446744073709551616) : dvs (dgn 65536 4 x) = [.int .i64 ((x : Int) % 65536), .int .i64 ((x : Int) / 65536 % 65536), .int .i64 ((x : Int) / 4294967296 % 65536), .int .i64 ((x : Int) / 281474976710656)] := by
  have e : dgn 65536 4 x = [x % 65536, x / 65536 % 65536, x / 4294967296 % 65536, x / 281474976710656] := by
    have h3 : x / 281474976710656 % 65536 = x / 281474976710656 := Nat.mod_eq_of_lt (by omega)
    rw [← h3]
    simp [dgn, List.range_succ]
  rw [e]
  simp [dvs]
theorem horn_mod (u P x : Nat) (h : u % Q' = P % Q') : (u * 2251799813685248 + x) % Q' = (P * 2251799813685248 + x) % Q' := by
  rw [Nat.add_mod, Nat.mul_mod, h, ← Nat.mul_mod, ← Nat.add_mod]

set_option maxRecDepth 1000000 in
set_option maxHeartbeats 4000000 in
theorem rfparts_any (L : Nat → Nat) (hL : ∀ i, i < 5 → L i < 18446744073709551616) (gl : Nat) (w : World) (hc : ∀ w', Below w.heap.size w w' → ∀ i, i < 5 → w'.cell? ⟨gl, i, none⟩ = some (.int .u64 ((L i : Nat) : Int))) :
    Calls Try.prog 37 #[.slice (some ⟨gl, 0, none⟩) 5 5] w fun e w' => Below w.heap.size w w' ∧ ∃ r, e = .returned r ∧ DS w' 0 r 16 (horn L 5 % Q') := by
  obtain ⟨i0, hi, hz0, hz1, hz2⟩ : ∃ i, Try.prog.info? 3 = some i ∧ i.zero = some (.int .i64 0) ∧ i.size = 1 ∧ i.bytes = 8 := ⟨_, rfl, rfl, rfl, rfl⟩
  have HC := Lib.hid hc
  have HL := Lib.hid hL
  clear hc hL
  go_enter Try.func37, Try.ntmps37
  go_wp2_with (at_make; refine wpList_make_full w rfl (.const (.int .i64 17)) (.const (.int .i64 17)) 26 rfl w.heap.size 3 i0 (.int .i64 0) 1 Try.underlying26 hi hz0 hz1 .i64 .i64 17 17 17 rfl rfl rfl rfl (by rw [hz2]; decide) (by decide) (Nat.le_refl _) ?_)
  intro w1 h1 h2
  have R0 := Lib.hid (show DS w1 0 (.slice (some ⟨w.heap.size, 0, none⟩) 17 17) 17 0 ∧ Below w.heap.size w w1 from ⟨(show DS w1 w.heap.size _ 17 0 from ⟨by rw [dg_zero, ← dg_zero 65536 17, ← made_zeros]; exact h1, by decide, by decide, by decide⟩).base (Nat.zero_le _), (Below.refl w.heap.size w).grown h2 (Nat.le_refl _) (fun k hk => by cases hk)⟩)
  clear h1 h2
  go_wp2_with fail
  go_loopw [3, 4] (fun x i wr => ∃ d : Nat, d ≤ 5 ∧ i = .int .i64 (4 - (d : Int)) ∧ (∃ n u, 16 ≤ n ∧ n ≤ 17 ∧ (0 < d → n = 16) ∧ (0 < d → u = horn L d % Q') ∧ u % Q' = horn L d % Q' ∧ DS wr 0 x n u) ∧ Below w.heap.size w wr) (fun _ i _ => (intOf i + 1).toNat)
  case atStart => exact ⟨0, by omega, rfl, ⟨17, 0, by decide, by decide, fun h => absurd h (by decide), fun h => absurd h (by decide), rfl, R0.out.1⟩, R0.out.2⟩
  case round =>
    obtain ⟨d, hd, rfl, ⟨n, u, hn0, hn1, hn2, hu0, hu, hds⟩, hb⟩ := hrel
    have HD := Lib.hid hds
    have HB := Lib.hid hb
    have HN := Lib.hid (show 16 ≤ n ∧ n ≤ 17 ∧ (0 < d → n = 16) ∧ (0 < d → u = horn L d % Q') from ⟨hn0, hn1, hn2, hu0⟩)
    have HU := Lib.hid hu
    have HDD := Lib.hid hd
    clear hds hb hn0 hn1 hn2 hu hu0 hd R0
    by_cases hlt : d < 5
    · have j1 : 4 - (d : Int) ≥ 0 := by omega
      have j2 : 4 - (d : Int) < 5 := by omega
      obtain ⟨j, hj⟩ : ∃ j : Nat, j = 4 - d := ⟨_, rfl⟩
      have ej : 4 - (d : Int) = (j : Int) := by omega
      have j3 : (0 : Int) ≤ (j : Int) := by omega
      have j4 : (j : Int) < 5 := by omega
      have j5 : (j : Int) ≥ 0 := by omega
      have HJ := Lib.hid hj
      have HLT := Lib.hid hlt
      rw [ej]
      clear hj j1 j2 hlt ej
      have D8 := Lib.hid (show DS (wr.alloc (.cells #[.int .i64 0, .int .i64 0, .int .i64 0, .int .i64 8] 3 (0, 0))) wr.heap.size (.slice (some ⟨wr.heap.size, 0, none⟩) 4 4) 4 2251799813685248 from ⟨by
        have := World.ownsRow_lit (base := wr.heap.size) (e := 3) (size := 1) wr #[.int .i64 0, .int .i64 0, .int .i64 0, .int .i64 8] 4 (Nat.le_refl _) (by decide) rfl
        exact this, by decide, by decide, by decide⟩)
      have BA := Lib.hid (show Below w.heap.size w (wr.alloc (.cells #[.int .i64 0, .int .i64 0, .int .i64 0, .int .i64 8] 3 (0, 0))) from below_alloc HB.out _)
      have DX := Lib.hid (HD.out.on ((Below.refl wr.heap.size wr).alloc (Nat.le_refl _) (.cells #[.int .i64 0, .int .i64 0, .int .i64 0, .int .i64 8] 3 (0, 0))))
      go_wp2_with fail
      refine (rtimes_any n 4 u 2251799813685248 _ _ _ _ _ DX.out D8.out).mono ?_
      rintro e w2 ⟨hb2, r2, rfl, ho2⟩
      have D2 := Lib.hid (show DS w2 _ r2 (n + 4) (u * 2251799813685248) from ⟨ho2, prod_lt_pow HD.out.2.1 (by decide) (by decide), by omega, by have := HN.out; omega⟩)
      have B2 := Lib.hid (BA.out.trans (hb2.mono BA.out.size))
      clear hb2 ho2 D8 BA DX
      go_wp2_with fail
      have hc : ∀ k, (w2.drewN k).cell? ⟨gl, j, none⟩ = some (.int .u64 ((L j : Nat) : Int)) := fun k => HC.out _ (below_drewN B2.out k) j (by omega)
      have hLj := HL.out j (by omega)
      have HF := Lib.hid (four_digits (L j) hLj)
      have HLJ := Lib.hid hLj
      have hc0 : w2.cell? ⟨gl, j, none⟩ = some (.int .u64 ((L j : Nat) : Int)) := hc 0
      have x0 : (0 : Int) ≤ (L j : Int) := by omega
      have x1 : (L j : Int) < 18446744073709551616 := by omega
      have x2 : (L j : Int) / 65536 < 18446744073709551616 := by omega
      have x3 : (0 : Int) ≤ (L j : Int) / 65536 := by omega
      generalize hx : L j = x at *
      have HX := Lib.hid hx
      clear hx hc hLj
      refine wp_region_any (by kernel_rfl) ?_
      change wpAny _ _ _ _ _ _ _ (World.drew _)
      refine wpAny_take_at (i := 0) (d := 13) (v := r2) rfl (by kernel_rfl) (by kernel_rfl) (by kernel_rfl) (fun _ _ _ h => h) rfl (Or.inl ⟨by rfl, by intro w; go_simp⟩) ?_
      simp only [Act.put, List.setIfInBounds_toArray, List.set_cons_zero, List.set_cons_succ]
      refine wpAny_quiet_mid (fun w' => ∃ k, w' = w2.drewN k) #[true, true, true, true, true, true, true, true, true, true, true, true, true, true, true, true, true, true, true, true, true, true, true, true, true, true, true, false, false, false] 1 26 3 (by kernel_rfl) (by kernel_rfl) (by kernel_rfl) (by kernel_rfl) rfl ⟨1, rfl⟩ ?_
      simp only [List.take_succ_cons, List.take_zero, List.drop_succ_cons, List.drop_zero]
      repeat (go_big_quiet_step (fail))
      refine wpQuiet_nil ?_
      intro _ hw'
      obtain ⟨kk, hw''⟩ := hw'
      subst hw''
      have D3 := Lib.hid (show DS (w2.drewN kk) _ r2 (n + 4) (u * 2251799813685248) from ⟨D2.out.1, D2.out.2⟩)
      have B3 := Lib.hid (below_drewN B2.out kk)
      clear hc0 x0 x1 x2 x3 D2 B2
      refine wpAny_tail 27 3 (by kernel_rfl) rfl ?_
      simp only [List.drop_succ_cons, List.drop_zero]
      generalize w2.drewN kk = w3 at D3 B3 ⊢
      have D4 := Lib.hid (show DS (w3.alloc (.cells #[.int .i64 ((x : Int) % 65536), .int .i64 ((x : Int) / 65536 % 65536), .int .i64 ((x : Int) / 4294967296 % 65536), .int .i64 ((x : Int) / 281474976710656)] 3 (0, 0))) w3.heap.size (.slice (some ⟨w3.heap.size, 0, none⟩) 4 4) 4 x from ⟨by
        have := World.ownsRow_lit (base := w3.heap.size) (e := 3) (size := 1) w3 #[.int .i64 ((x : Int) % 65536), .int .i64 ((x : Int) / 65536 % 65536), .int .i64 ((x : Int) / 4294967296 % 65536), .int .i64 ((x : Int) / 281474976710656)] 4 (Nat.le_refl _) (by decide) rfl
        rw [HF.out]
        exact this, Nat.lt_of_lt_of_le HLJ.out (by decide), by decide, by decide⟩)
      have DY := Lib.hid (D3.out.on ((Below.refl w3.heap.size w3).alloc (Nat.le_refl _) (.cells #[.int .i64 ((x : Int) % 65536), .int .i64 ((x : Int) / 65536 % 65536), .int .i64 ((x : Int) / 4294967296 % 65536), .int .i64 ((x : Int) / 281474976710656)] 3 (0, 0))))
      have B4 := Lib.hid (show Below w.heap.size w (w3.alloc (.cells #[.int .i64 ((x : Int) % 65536), .int .i64 ((x : Int) / 65536 % 65536), .int .i64 ((x : Int) / 4294967296 % 65536), .int .i64 ((x : Int) / 281474976710656)] 3 (0, 0))) from below_alloc B3.out _)
      clear D3 B3
      go_wp2_with fail
      refine (radd_any (n + 4) 4 (u * 2251799813685248) x _ _ _ _ _ DY.out D4.out).mono ?_
      rintro e w5 ⟨hb5, r5, k5, rfl, p1, p2, p3, p4, ho5⟩
      have D5 := Lib.hid (show DS w5 _ r5 k5 (u * 2251799813685248 + x) from ⟨ho5, p4, by omega, by have := HN.out; omega⟩)
      have K5 := Lib.hid (show 16 ≤ k5 by have := HN.out; omega)
      have B5 := Lib.hid (B4.out.trans (hb5.mono B4.out.size))
      clear hb5 ho5 p1 p2 p3 p4 D4 DY B4
      go_wp2_with fail
      refine (rreduce_any _ _ _ _ _ D5.out K5.out).mono ?_
      rintro e w6 ⟨hb6, r6, rfl, hd6⟩
      have B6 := Lib.hid (B5.out.trans (hb6.mono B5.out.size))
      rw [horn_mod u (horn L d) x HU.out] at hd6
      have D6 := Lib.hid (show DS w6 0 r6 16 (horn L (d + 1) % Q') from by
        have e1 : horn L (d + 1) = horn L d * 2251799813685248 + x := by rw [horn, ← HX.out, HJ.out]
        rw [e1]
        exact hd6)
      clear hb6 hd6 D5 B5 K5
      go_wp2_with fail
      go_roundw
      case rel => exact ⟨d + 1, HLT.out, by have := HJ.out; have := HLT.out; go_num, ⟨16, _, by decide, by decide, fun _ => rfl, fun _ => rfl, Nat.mod_mod _ _, D6.out⟩, B6.out⟩
      case measure => simp [intOf]
    · have j1 : ¬ 4 - (d : Int) ≥ 0 := by omega
      have hd5 : d = 5 := by have := HDD.out; omega
      subst hd5
      clear hlt
      go_wp2_with fail
      go_ret
      exact ⟨HB.out, _, rfl, by
        have h1 := HN.out.2.2.1 (by decide)
        have h2 := HN.out.2.2.2 (by decide)
        have := HD.out
        rw [h1, h2] at this
        exact this⟩
end Go.Proofs.Ythlmphloalbhnaa
