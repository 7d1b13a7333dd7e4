/-
  The law of what is written: every account is written as the document says, or refused, and taken back.
-/
import Derived.Test.YtfckjilhkdlpfaaRingG
namespace Go.Proofs.Ytfckjilhkdlpfaa
open Go.RowKit MS

set_option maxHeartbeats 1000000 in
theorem law_long (a : Acc) (hs : a.short = false) (w : World) :
    Calls Try.prog 3 #[a.v] w fun e w' => e = .returned (.bool true) ∧ Below w.heap.size w w' := by
  have h1 := short_any a
  rw [hs] at h1
  obtain ⟨user, salt, rounds, epoch, pub, nonce, wrapped, old⟩ := a
  unfold Acc.v at *
  simp only at *
  have H1 := Lib.hid h1
  clear h1 hs
  go_enter Try.func3, Try.ntmps3
  go_wp2_with fail
  refine (H1.out _).mono ?_
  rintro e w1 ⟨rfl, hb1⟩
  obtain ⟨hc1, hf1⟩ := bcell hb1
  go_wp2_with fail
  refine (awake_any _).mono ?_
  rintro e w2 ⟨rfl, hb2⟩
  go_wp2_with fail
  go_ret
  refine ⟨rfl, ?_⟩
  repeat (first | (with_reducible exact Below.refl _ _) | (with_reducible refine below_setCell ?_ (by simp) _) | (with_reducible apply below_alloc) | (with_reducible apply Below.drew) | (with_reducible refine below_chain ?_ (by assumption)))

theorem short_user {a : Acc} (h : a.short = true) : a.user.size ≤ 1000 := by
  unfold Acc.short at h; simp only [decide_eq_true_eq] at h; omega

set_option maxHeartbeats 1000000 in
theorem puts_no (a : Acc) (hs : a.short = true) (hk : a.ok = false) (w : World) :
    Calls Try.prog 3 #[a.v] w fun e w' => e = .returned (.bool true) ∧ Below w.heap.size w w' := by
  have h1 := short_any a
  rw [hs] at h1
  have h2 := put_no a hk
  have h3 := refAcc_any a
  have h4 := refRight_any a (short_user hs)
  have h5 := right_any a
  rw [hk] at h4 h5
  have hu := short_user hs
  obtain ⟨user, salt, rounds, epoch, pub, nonce, wrapped, old⟩ := a
  unfold Acc.v at *
  simp only at *
  have H1 := Lib.hid h1
  have H2 := Lib.hid h2
  have H3 := Lib.hid h3
  have H4 := Lib.hid h4
  have H5 := Lib.hid h5
  clear h1 h2 h3 h4 h5 hs hk
  have e0 : (bs []).toList.isEmpty = true := by rw [isEmpty_size]; rfl
  have H6 := Lib.hid (rightUser_any user)
  have H7 := Lib.hid (refUser_any user hu)
  go_enter Try.func3, Try.ntmps3
  go_wp2_with fail
  refine (H1.out _).mono ?_
  rintro e w1 ⟨rfl, K1⟩
  obtain ⟨c1, f1, z1⟩ := own1 K1
  go_wp2_with fail
  refine (H2.out _).mono ?_
  rintro e w2 ⟨rfl, hb2⟩
  have K2 := below_chain K1 hb2
  obtain ⟨c2, f2, z2⟩ := own1 K2
  go_wp2_with fail
  refine (H3.out _).mono ?_
  rintro e w3 ⟨rfl, hb3⟩
  have K3 := below_chain K2 hb3
  obtain ⟨c3, f3, z3⟩ := own1 K3
  go_wp2_with fail
  refine (H4.out _).mono ?_
  rintro e w4 ⟨rfl, hb4⟩
  have K4 := below_chain K3 hb4
  obtain ⟨c4, f4, z4⟩ := own1 K4
  clear c1 c2 c3 f1 f2 f3
  go_wp2_with fail
  go_region_held3 (fun w' => Below (w.alloc (.cells #[.string user, .string salt, .int .i64 rounds, .int .i64 epoch, .string pub, .string nonce, .string wrapped, .string old] 23)).heap.size (w.alloc (.cells #[.string user, .string salt, .int .i64 rounds, .int .i64 epoch, .string pub, .string nonce, .string wrapped, .string old] 23)) w' ∧ w'.cell? ⟨w.heap.size, 0, none⟩ = some (.string user) ∧ w'.cell? ⟨w.heap.size, 1, none⟩ = some (.string salt) ∧ w'.cell? ⟨w.heap.size, 2, none⟩ = some (.int .i64 rounds) ∧ w'.cell? ⟨w.heap.size, 3, none⟩ = some (.int .i64 epoch) ∧ w'.cell? ⟨w.heap.size, 4, none⟩ = some (.string pub) ∧ w'.cell? ⟨w.heap.size, 5, none⟩ = some (.string nonce) ∧ w'.cell? ⟨w.heap.size, 6, none⟩ = some (.string wrapped) ∧ w'.cell? ⟨w.heap.size, 7, none⟩ = some (.string old))
    ((refine ⟨?_, ?_, ?_, ?_, ?_, ?_, ?_, ?_, ?_⟩ <;> first | exact K4.drew | exact below_chain K4.drew hb | (rw [World.cell?_drew, c4]; simp [go_sem]) | (rw [(own1 (below_chain K4.drew hb)).1]; simp [go_sem])))
    (first
      | (go_at_call 11; refine (H5.out _).mono ?_; rintro e w' ⟨rfl, hb⟩)
      | (go_at_call 12; refine (H6.out _).mono ?_; rintro e w' ⟨rfl, rfl⟩)
      | (go_at_call 13; refine (H7.out _).mono ?_; rintro e w' ⟨rfl, rfl⟩))
  go_wp2_with fail
  refine (awake_any _).mono ?_
  rintro e w9 ⟨rfl, hb9⟩
  go_wp2_with fail
  go_ret
  refine ⟨rfl, ?_⟩
  exact below_chain (below_chain (Below.drew (below_chain (below_alloc (Below.refl _ _) _) K4)) hb) hb9

set_option maxHeartbeats 1000000 in
theorem puts_yes (a : Acc) (hs : a.short = true) (hk : a.ok = true) (w : World) :
    Calls Try.prog 3 #[a.v] w fun e w' => e = .returned (.bool true) ∧ Below w.heap.size w w' := by
  have h1 := short_any a
  rw [hs] at h1
  have h2 := put_yes a hk
  have h3 := refAcc_any a
  have h4 := refRight_any a (short_user hs)
  have h5 := right_any a
  have h8 := take_put a hk
  have h9 := refPut_any a hk
  generalize a.put = S at *
  rw [hk] at h4 h5
  have hu := short_user hs
  obtain ⟨user, salt, rounds, epoch, pub, nonce, wrapped, old⟩ := a
  unfold Acc.v at *
  simp only at *
  have H1 := Lib.hid h1
  have H2 := Lib.hid h2
  have H3 := Lib.hid h3
  have H4 := Lib.hid h4
  have H5 := Lib.hid h5
  have H8 := Lib.hid h8
  have H9 := Lib.hid h9
  clear h1 h2 h3 h4 h5 h8 h9 hs hk
  have H6 := Lib.hid (rightUser_any user)
  have H7 := Lib.hid (refUser_any user hu)
  go_enter Try.func3, Try.ntmps3
  go_wp2_with fail
  refine (H1.out _).mono ?_
  rintro e w1 ⟨rfl, K1⟩
  obtain ⟨c1, f1, z1⟩ := own1 K1
  go_wp2_with fail
  refine (H2.out _).mono ?_
  rintro e w2 ⟨rfl, hb2⟩
  have K2 := below_chain K1 hb2
  obtain ⟨c2, f2, z2⟩ := own1 K2
  go_wp2_with fail
  refine (H3.out _).mono ?_
  rintro e w3 ⟨rfl, hb3⟩
  have K3 := below_chain K2 hb3
  obtain ⟨c3, f3, z3⟩ := own1 K3
  go_wp2_with fail
  refine (H4.out _).mono ?_
  rintro e w4 ⟨rfl, hb4⟩
  have K4 := below_chain K3 hb4
  obtain ⟨c4, f4, z4⟩ := own1 K4
  clear c1 c2 c3 f1 f2 f3
  go_wp2_with fail
  go_region_held3 (fun w' => Below (w.alloc (.cells #[.string user, .string salt, .int .i64 rounds, .int .i64 epoch, .string pub, .string nonce, .string wrapped, .string old] 23)).heap.size (w.alloc (.cells #[.string user, .string salt, .int .i64 rounds, .int .i64 epoch, .string pub, .string nonce, .string wrapped, .string old] 23)) w' ∧ w'.cell? ⟨w.heap.size, 0, none⟩ = some (.string user) ∧ w'.cell? ⟨w.heap.size, 1, none⟩ = some (.string salt) ∧ w'.cell? ⟨w.heap.size, 2, none⟩ = some (.int .i64 rounds) ∧ w'.cell? ⟨w.heap.size, 3, none⟩ = some (.int .i64 epoch) ∧ w'.cell? ⟨w.heap.size, 4, none⟩ = some (.string pub) ∧ w'.cell? ⟨w.heap.size, 5, none⟩ = some (.string nonce) ∧ w'.cell? ⟨w.heap.size, 6, none⟩ = some (.string wrapped) ∧ w'.cell? ⟨w.heap.size, 7, none⟩ = some (.string old))
    ((refine ⟨?_, ?_, ?_, ?_, ?_, ?_, ?_, ?_, ?_⟩ <;> first | exact K4.drew | exact below_chain K4.drew hb | (rw [World.cell?_drew, c4]; simp [go_sem]) | (rw [(own1 (below_chain K4.drew hb)).1]; simp [go_sem])))
    (first
      | (go_at_call 11; refine (H5.out _).mono ?_; rintro e w' ⟨rfl, hb⟩)
      | (go_at_call 12; refine (H6.out _).mono ?_; rintro e w' ⟨rfl, rfl⟩)
      | (go_at_call 13; refine (H7.out _).mono ?_; rintro e w' ⟨rfl, rfl⟩))
  go_wp2_with fail
  have K5 := below_chain (Below.drew K4) hb
  obtain ⟨c5, f5, z5⟩ := own1 K5
  clear c4 f4
  refine (H8.out _).mono ?_
  rintro e w6 ⟨rfl, hb6⟩
  have K6 := below_chain K5 hb6
  obtain ⟨c6, f6, z6⟩ := own1 K6
  go_wp2_with fail
  refine (H3.out _).mono ?_
  rintro e w7 ⟨rfl, hb7⟩
  have K7 := below_chain (below_alloc K6 _) hb7
  go_wp2_with fail
  refine (H9.out _).mono ?_
  rintro e w8 ⟨rfl, hb8⟩
  have K8 := below_chain K7 hb8
  have J8 := below_chain hb7 hb8
  obtain ⟨c8, f8, z8⟩ := own1 K8
  obtain ⟨d8, g8, y8⟩ := own1 J8
  clear c5 c6 f5 f6
  go_wp2_with fail
  refine (awake_any _).mono ?_
  rintro e w9 ⟨rfl, hb9⟩
  go_wp2_with fail
  go_ret
  refine ⟨rfl, ?_⟩
  exact below_chain (below_chain (below_alloc (Below.refl _ _) _) K8) hb9
end Go.Proofs.Ytfckjilhkdlpfaa
