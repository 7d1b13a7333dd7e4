/-
  The laws of what is taken, and of sizes.
-/
import Derived.Test.YtfckjilhkdlpfaaRingH
namespace Go.Proofs.Ytfckjilhkdlpfaa
open Go.RowKit MS

set_option maxHeartbeats 1000000 in
theorem takes_long (s : ByteArray) (hs : 512 < s.size) (w : World) :
    Calls Try.prog 4 #[.string s] w fun e w' => e = .returned (.bool true) ∧ Below w.heap.size w w' := by
  have t1 : decide ((512 : Int) < s.size) = true := by simp; omega
  go_enter Try.func4, Try.ntmps4
  go_wp2_with fail
  refine (awake_any _).mono ?_
  rintro e w1 ⟨rfl, hb1⟩
  go_wp2_with fail
  go_ret
  exact ⟨rfl, hb1⟩

set_option maxHeartbeats 2000000 in
/-- Where there is no account. -/
theorem takes_none (s : ByteArray) (hs : s.size ≤ 512)
    (h1 : ∀ w, Calls Try.prog 14 #[.string s] w fun e w' => e = .returned (.tuple #[noAcc.v, .int .i64 3]) ∧ Below w.heap.size w w')
    (h2 : ∀ w, Calls Try.prog 16 #[.string s] w fun e w' => e = .returned (.tuple #[noAcc.v, .bool false]) ∧ Below w.heap.size w w') (w : World) :
    Calls Try.prog 4 #[.string s] w fun e w' => e = .returned (.bool true) ∧ Below w.heap.size w w' := by
  have t1 : decide ((512 : Int) < s.size) = false := by simp; omega
  unfold noAcc Acc.v bs at h1 h2
  simp only at h1 h2
  have H1 := Lib.hid h1
  have H2 := Lib.hid h2
  clear h1 h2
  go_enter Try.func4, Try.ntmps4
  go_wp2_with fail
  refine (H1.out _).mono ?_
  rintro e w1 ⟨rfl, hb1⟩
  go_wp2_with fail
  refine (H2.out _).mono ?_
  rintro e w2 ⟨rfl, hb2⟩
  obtain ⟨c2, f2, z2⟩ := own1 hb2
  go_wp2_with fail
  refine (awake_any _).mono ?_
  rintro e w3 ⟨rfl, hb3⟩
  go_wp2_with fail
  go_ret
  refine ⟨rfl, ?_⟩
  exact below_chain (below_alloc (below_chain (below_alloc hb1 _) hb2) _) hb3

set_option maxHeartbeats 2000000 in
/-- Where there is one. -/
theorem takes_one (s : ByteArray) (hs : s.size ≤ 512) (a : Acc) (hp : a.put = s) (hk : a.ok = true)
    (h1 : ∀ w, Calls Try.prog 14 #[.string s] w fun e w' => e = .returned (.tuple #[a.v, .int .i64 0]) ∧ Below w.heap.size w w')
    (h2 : ∀ w, Calls Try.prog 16 #[.string s] w fun e w' => e = .returned (.tuple #[a.v, .bool true]) ∧ Below w.heap.size w w') (w : World) :
    Calls Try.prog 4 #[.string s] w fun e w' => e = .returned (.bool true) ∧ Below w.heap.size w w' := by
  have t1 : decide ((512 : Int) < s.size) = false := by simp; omega
  have h3 := put_yes a hk
  have h4 := refAcc_any a
  rw [hp] at h3
  obtain ⟨user, salt, rounds, epoch, pub, nonce, wrapped, old⟩ := a
  unfold Acc.v at *
  simp only at *
  have H1 := Lib.hid h1
  have H2 := Lib.hid h2
  have H3 := Lib.hid h3
  have H4 := Lib.hid h4
  clear h1 h2 h3 h4 hp hk
  go_enter Try.func4, Try.ntmps4
  go_wp2_with fail
  refine (H1.out _).mono ?_
  rintro e w1 ⟨rfl, hb1⟩
  go_wp2_with fail
  refine (H2.out _).mono ?_
  rintro e w2 ⟨rfl, hb2⟩
  obtain ⟨c2, f2, z2⟩ := own1 hb2
  go_wp2_with fail
  refine (H3.out _).mono ?_
  rintro e w3 ⟨rfl, hb3⟩
  have K3 := below_chain (below_alloc hb2 _) hb3
  obtain ⟨c3, f3, z3⟩ := own1 K3
  obtain ⟨d3, g3, y3⟩ := own1 hb3
  clear c2 f2
  go_wp2_with fail
  go_region_held3 (fun w' => Below (w1.alloc (.cells #[.string user, .string salt, .int .i64 rounds, .int .i64 epoch, .string pub, .string nonce, .string wrapped, .string old] 23)).heap.size (w1.alloc (.cells #[.string user, .string salt, .int .i64 rounds, .int .i64 epoch, .string pub, .string nonce, .string wrapped, .string old] 23)) w' ∧ Below (w2.alloc (.cells #[.string user, .string salt, .int .i64 rounds, .int .i64 epoch, .string pub, .string nonce, .string wrapped, .string old] 32)).heap.size (w2.alloc (.cells #[.string user, .string salt, .int .i64 rounds, .int .i64 epoch, .string pub, .string nonce, .string wrapped, .string old] 32)) w' ∧ w'.cell? ⟨w1.heap.size, 0, none⟩ = some (.string user) ∧ w'.cell? ⟨w1.heap.size, 1, none⟩ = some (.string salt) ∧ w'.cell? ⟨w1.heap.size, 2, none⟩ = some (.int .i64 rounds) ∧ w'.cell? ⟨w1.heap.size, 3, none⟩ = some (.int .i64 epoch) ∧ w'.cell? ⟨w1.heap.size, 4, none⟩ = some (.string pub) ∧ w'.cell? ⟨w1.heap.size, 5, none⟩ = some (.string nonce) ∧ w'.cell? ⟨w1.heap.size, 6, none⟩ = some (.string wrapped) ∧ w'.cell? ⟨w1.heap.size, 7, none⟩ = some (.string old) ∧ w'.cell? ⟨w2.heap.size, 0, none⟩ = some (.string user) ∧ w'.cell? ⟨w2.heap.size, 1, none⟩ = some (.string salt) ∧ w'.cell? ⟨w2.heap.size, 2, none⟩ = some (.int .i64 rounds) ∧ w'.cell? ⟨w2.heap.size, 3, none⟩ = some (.int .i64 epoch) ∧ w'.cell? ⟨w2.heap.size, 4, none⟩ = some (.string pub) ∧ w'.cell? ⟨w2.heap.size, 5, none⟩ = some (.string nonce) ∧ w'.cell? ⟨w2.heap.size, 6, none⟩ = some (.string wrapped) ∧ w'.cell? ⟨w2.heap.size, 7, none⟩ = some (.string old))
    ((refine ⟨?_, ?_, ?_, ?_, ?_, ?_, ?_, ?_, ?_, ?_, ?_, ?_, ?_, ?_, ?_, ?_, ?_, ?_⟩ <;> first | exact K3.drew | exact hb3.drew | exact below_chain K3.drew hb | exact below_chain hb3.drew hb | exact below_chain Kr hb | exact below_chain Jr hb | (rw [World.cell?_drew, c3]; simp [go_sem]) | (rw [World.cell?_drew, d3]; simp [go_sem]) | (rw [(own1 (below_chain K3.drew hb)).1]; simp [go_sem]) | (rw [(own1 (below_chain hb3.drew hb)).1]; simp [go_sem]) | (rw [(own1 (below_chain Kr hb)).1]; simp [go_sem]) | (rw [(own1 (below_chain Jr hb)).1]; simp [go_sem])))
    (first
      | (go_at_call 10; refine (H4.out _).mono ?_; rintro e w' ⟨rfl, hb⟩; have Kr := below_chain K3.drew hb; have Jr := below_chain hb3.drew hb)
      | (go_at_call 7; refine (awake_any _).mono ?_; rintro e w' ⟨rfl, hb⟩))
  go_wp2_with fail
  go_ret
  refine ⟨rfl, ?_⟩
  exact below_chain (below_chain (below_alloc hb1 _) Kr) hb

theorem takes_any (s : ByteArray) (w : World) :
    Calls Try.prog 4 #[.string s] w fun e w' => e = .returned (.bool true) ∧ Below w.heap.size w w' := by
  by_cases hs : 512 < s.size
  · exact takes_long s hs w
  · have hs' : s.size ≤ 512 := by omega
    by_cases h0 : 0 < s.size
    · by_cases hl : 111 + (s[0]'h0).toNat ≤ s.size
      · have t := fun w => take_any s _ h0 rfl hl (by omega) w
        have r := fun w => refTake_any s _ h0 rfl hl (by omega) w
        cases hk : (takeAcc s (s[0]'h0).toNat).ok with
        | true => exact takes_one s hs' _ (put_takeAcc s _ h0 rfl hl) hk (fun w => (t w).mono fun e w' ⟨he, hb⟩ => ⟨he.1 hk, hb⟩) (fun w => (r w).mono fun e w' ⟨he, hb⟩ => ⟨he.1 hk, hb⟩) w
        | false => exact takes_none s hs' (fun w => (t w).mono fun e w' ⟨he, hb⟩ => ⟨he.2 hk, hb⟩) (fun w => (r w).mono fun e w' ⟨he, hb⟩ => ⟨he.2 hk, hb⟩) w
      · exact takes_none s hs' (fun w => take_short s (.inr ⟨h0, by omega⟩) (by omega) w) (fun w => refTake_short s (.inr ⟨h0, by omega⟩) (by omega) w) w
    · exact takes_none s hs' (fun w => take_short s (.inl (by omega)) (by omega) w) (fun w => refTake_short s (.inl (by omega)) (by omega) w) w

theorem fin_ok {a : Acc} (h : a.ok = true) : ({ a with old := bs [] } : Acc).ok = true := by
  obtain ⟨user, salt, rounds, epoch, pub, nonce, wrapped, old⟩ := a
  unfold Acc.ok at *
  simp only [Bool.and_eq_true] at *
  exact ⟨h.1, by rw [size_bs]; rfl⟩
theorem fin_put (a : Acc) : a.put = ({ a with old := bs [] } : Acc).put ++ a.old := by
  apply ls_inj
  rw [ls_append, ls_put, ls_put]
  simp [ls_bs]
theorem fin_cut (a : Acc) : a.put.extract 0 ({ a with old := bs [] } : Acc).put.size = ({ a with old := bs [] } : Acc).put := by
  apply ls_inj
  rw [ls_extract, List.drop_zero, Nat.sub_zero, fin_put a, ls_append, ← length_ls, List.take_left]

set_option maxHeartbeats 2000000 in
theorem sizes_no (a : Acc) (hs : a.short = true) (hk : a.ok = false) (w : World) :
    Calls Try.prog 5 #[a.v] w fun e w' => e = .returned (.bool true) ∧ Below w.heap.size w w' := by
  have h1 := short_any a
  rw [hs] at h1
  have h2 := put_no a hk
  have e0 : (bs []).toList.isEmpty = true := by rw [isEmpty_size]; rfl
  obtain ⟨user, salt, rounds, epoch, pub, nonce, wrapped, old⟩ := a
  unfold Acc.v at *
  simp only at *
  have H1 := Lib.hid h1
  have H2 := Lib.hid h2
  clear h1 h2 hs hk
  go_enter Try.func5, Try.ntmps5
  go_wp2_with fail
  refine (H1.out _).mono ?_
  rintro e w1 ⟨rfl, K1⟩
  obtain ⟨c1, f1, z1⟩ := own1 K1
  go_wp2_with fail
  refine (H2.out _).mono ?_
  rintro e w2 ⟨rfl, hb2⟩
  go_wp2_with fail
  refine (awake_any _).mono ?_
  rintro e w3 ⟨rfl, hb3⟩
  go_wp2_with fail
  go_ret
  refine ⟨rfl, ?_⟩
  exact below_chain (below_chain (below_chain (below_alloc (Below.refl _ _) _) K1) hb2) hb3

set_option maxHeartbeats 2000000 in
theorem sizes_long (a : Acc) (hs : a.short = false) (w : World) :
    Calls Try.prog 5 #[a.v] w fun e w' => e = .returned (.bool true) ∧ Below w.heap.size w w' := by
  have h1 := short_any a
  rw [hs] at h1
  obtain ⟨user, salt, rounds, epoch, pub, nonce, wrapped, old⟩ := a
  unfold Acc.v at *
  simp only at *
  have H1 := Lib.hid h1
  clear h1 hs
  go_enter Try.func5, Try.ntmps5
  go_wp2_with fail
  refine (H1.out _).mono ?_
  rintro e w1 ⟨rfl, K1⟩
  go_wp2_with fail
  refine (awake_any _).mono ?_
  rintro e w3 ⟨rfl, hb3⟩
  go_wp2_with fail
  go_ret
  refine ⟨rfl, ?_⟩
  exact below_chain (below_chain (below_alloc (Below.refl _ _) _) K1) hb3

set_option maxHeartbeats 2000000 in
theorem sizes_yes (a : Acc) (hs : a.short = true) (hk : a.ok = true) (w : World) :
    Calls Try.prog 5 #[a.v] w fun e w' => e = .returned (.bool true) ∧ Below w.heap.size w w' := by
  have h1 := short_any a
  rw [hs] at h1
  have h2 := put_yes a hk
  have h3 := finish_any a
  have h4 := put_yes _ (fin_ok hk)
  have q1 := put_size a (Acc.fits_of hk)
  have q2 := put_size _ (Acc.fits_of (fin_ok hk))
  have q3 := fin_cut a
  have u8 := (Acc.fits_of hk).u8
  have uo := (Acc.fits_of hk).old
  obtain ⟨user, salt, rounds, epoch, pub, nonce, wrapped, old⟩ := a
  unfold Acc.v at *
  simp only at *
  generalize (⟨user, salt, rounds, epoch, pub, nonce, wrapped, old⟩ : Acc).put = S at *
  generalize (⟨user, salt, rounds, epoch, pub, nonce, wrapped, bs []⟩ : Acc).put = T at *
  have q2' : T.size = 111 + user.size := by rw [q2, size_bs]; rfl
  have q4 : T.size ≤ S.size := by omega
  rw [q2'] at q3
  have H1 := Lib.hid h1
  have H2 := Lib.hid h2
  have H3 := Lib.hid h3
  have H4 := Lib.hid h4
  clear h1 h2 h3 h4 hs hk q2 q4
  go_enter Try.func5, Try.ntmps5
  go_wp2_with fail
  refine (H1.out _).mono ?_
  rintro e w1 ⟨rfl, K1⟩
  obtain ⟨c1, f1, z1⟩ := own1 K1
  go_wp2_with fail
  refine (H2.out _).mono ?_
  rintro e w2 ⟨rfl, hb2⟩
  have K2 := below_chain K1 hb2
  obtain ⟨c2, f2, z2⟩ := own1 K2
  go_wp2_with fail
  refine (H3.out _).mono ?_
  rintro e w3 ⟨rfl, hb3⟩
  go_wp2_with fail
  refine (H4.out _).mono ?_
  rintro e w4 ⟨rfl, hb4⟩
  have K4 := below_chain (below_chain K2 hb3) hb4
  obtain ⟨c4, f4, z4⟩ := own1 K4
  clear c1 c2 f1 f2
  go_wp2_with fail
  refine (awake_any _).mono ?_
  rintro e w5 ⟨rfl, hb5⟩
  go_wp2_with fail
  go_ret
  refine ⟨rfl, ?_⟩
  exact below_chain (below_chain (below_alloc (Below.refl _ _) _) K4) hb5
end Go.Proofs.Ytfckjilhkdlpfaa
