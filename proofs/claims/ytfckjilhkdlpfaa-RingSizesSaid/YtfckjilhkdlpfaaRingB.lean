/-
  Contracts of ring and mailsackref13: what is written for an account.
-/
import Derived.Test.YtfckjilhkdlpfaaRingA
namespace Go.Proofs.Ytfckjilhkdlpfaa
open Go.RowKit MS

set_option maxHeartbeats 400000 in
theorem refRight_any (a : Acc) (hs : a.user.size ≤ 1000) (w : World) :
    Calls Try.prog 9 #[a.v] w fun e w' => e = .returned (.bool a.ok) ∧ Below w.heap.size w w' := by
  obtain ⟨user, salt, rounds, epoch, pub, nonce, wrapped, old⟩ := a
  simp only at hs
  unfold Acc.v
  simp only
  go_enter Try.func9, Try.ntmps9
  go_wp2_with (go_at_call 13; refine (refUser_any _ hs _).mono ?_; rintro e w' ⟨rfl, rfl⟩)
  all_goals
    go_ret
    refine ⟨?_, (Below.refl _ _).alloc (Nat.le_refl _) _⟩
    unfold Acc.ok rwB
    simp only [size_empty] at *
    simp [beq0, beq48, *]
    try omega

set_option maxHeartbeats 400000 in
theorem refAcc_any (a : Acc) (w : World) :
    Calls Try.prog 10 #[a.v] w fun e w' => e = .returned a.v ∧ Below w.heap.size w w' := by
  obtain ⟨user, salt, rounds, epoch, pub, nonce, wrapped, old⟩ := a
  unfold Acc.v
  simp only
  go_enter Try.func10, Try.ntmps10
  go_wp2
  refine bodyPost_ret (v := .agg #[.string user, .string salt, .int .i64 rounds, .int .i64 epoch, .string pub, .string nonce, .string wrapped, .string old]) (by simp [results, Try.results10, go_sem]) rfl ⟨rfl, ?_⟩
  exact ((Below.refl _ _).alloc (Nat.le_refl _) _).alloc (by simp) _

set_option maxHeartbeats 400000 in
theorem finish_any (a : Acc) (w : World) :
    Calls Try.prog 17 #[a.v] w fun e w' => e = .returned ({ a with old := bs [] } : Acc).v ∧ Below w.heap.size w w' := by
  obtain ⟨user, salt, rounds, epoch, pub, nonce, wrapped, old⟩ := a
  unfold Acc.v
  simp only
  go_enter Try.func17, Try.ntmps17
  go_wp2
  refine bodyPost_ret (v := .agg #[.string user, .string salt, .int .i64 rounds, .int .i64 epoch, .string pub, .string nonce, .string wrapped, .string (bs [])]) (by simp [results, Try.results17, go_sem, bs]) rfl ⟨rfl, ?_⟩
  exact ((Below.refl _ _).alloc (Nat.le_refl _) _).alloc (by simp) _

theorem one_any (x : UInt8) (n : Int) (hn : n % 256 = (x.toNat : Int)) (w : World) :
    Calls Try.prog 20 #[.int .i64 n] w fun e w' => e = .returned (.string (bs [x])) ∧ w' = w.alloc (.cells #[.int .u8 (x.toNat : Int)] 5) := by
  have k1 := run_one_to_string (P := Try.prog) 42 9 5 Try.underlying42 Try.underlying5 Try.underlying9
  go_enter Try.func20, Try.ntmps20
  go_wp2
  go_ret
  exact ⟨rfl, rfl⟩

/-- What stands for an account. -/
def Acc.put (a : Acc) : ByteArray :=
  bs [UInt8.ofNat a.user.size] ++ a.user ++ a.salt ++ bs [UInt8.ofNat a.rounds.toNat, UInt8.ofNat a.epoch.toNat] ++ a.pub ++ a.nonce ++ a.wrapped ++ a.old

structure Acc.fits (a : Acc) : Prop where
  user : usrB a.user = true
  u8 : a.user.size ≤ 8
  salt : a.salt.size = 16
  r1 : 1 ≤ a.rounds
  r2 : a.rounds ≤ 64
  e : a.epoch = 0 ∨ a.epoch = 1
  pub : a.pub.size = 32
  nonce : a.nonce.size = 12
  wrapped : a.wrapped.size = 48
  old : a.old.size = 0 ∨ a.old.size = 48
theorem Acc.fits_of {a : Acc} (h : a.ok = true) : a.fits := by
  unfold Acc.ok rwB at h
  simp only [Bool.and_eq_true, Bool.or_eq_true, beq_iff_eq, decide_eq_true_eq] at h
  obtain ⟨⟨⟨⟨⟨h1, ⟨⟨h2, h3⟩, h4⟩, h5⟩, h6⟩, h7⟩, h8⟩, h9⟩ := h
  have h1' := h1
  unfold usrB at h1'
  simp only [Bool.and_eq_true, decide_eq_true_eq] at h1'
  exact ⟨h1, h1'.1.2, h2, h4, h5, h6, h7, h3, h8, h9⟩

set_option maxHeartbeats 400000 in
theorem put_no (a : Acc) (hk : a.ok = false) (w : World) :
    Calls Try.prog 8 #[a.v] w fun e w' => e = .returned (.tuple #[.string (bs []), .int .i64 1]) ∧ Below w.heap.size w w' := by
  have hr := right_any a
  obtain ⟨user, salt, rounds, epoch, pub, nonce, wrapped, old⟩ := a
  rw [hk] at hr
  unfold Acc.v at *
  simp only at *
  have HR := Lib.hid hr
  clear hr hk
  go_enter Try.func8, Try.ntmps8
  go_wp2_with (go_at_call 11; refine (HR.out _).mono ?_; rintro e w' ⟨rfl, hb⟩; obtain ⟨hc, hf⟩ := bcell hb; have hz : w.heap.size < w'.heap.size := by (have := hb.size; simp at this; omega))
  go_ret2
  exact ⟨rfl, ((Below.refl _ _).alloc (Nat.le_refl _) _).trans (hb.mono (by simp))⟩

set_option maxHeartbeats 400000 in
theorem put_yes (a : Acc) (hk : a.ok = true) (w : World) :
    Calls Try.prog 8 #[a.v] w fun e w' => e = .returned (.tuple #[.string a.put, .int .i64 0]) ∧ Below w.heap.size w w' := by
  have hr := right_any a
  have hft := Acc.fits_of hk
  obtain ⟨user, salt, rounds, epoch, pub, nonce, wrapped, old⟩ := a
  obtain ⟨h1, h2, h3, h4, h5, h6, h7, h8, h9, h10⟩ := hft
  rw [hk] at hr
  unfold Acc.v at *
  simp only at *
  have HR := Lib.hid hr
  clear hr hk
  have k1 := run_one_int (P := Try.prog) 42 9 5 Try.underlying42 Try.underlying5 Try.underlying9 (user.size : Int) (by omega) (by omega)
  have k2 := run_two_int (P := Try.prog) 42 9 5 Try.underlying42 Try.underlying5 Try.underlying9 rounds epoch (by omega) (by omega) (by omega) (by omega)
  have s1 : (bs [UInt8.ofNat user.size]).size = 1 := rfl
  have s2 : (bs [UInt8.ofNat rounds.toNat, UInt8.ofNat epoch.toNat]).size = 2 := rfl
  go_enter Try.func8, Try.ntmps8
  go_wp2_with (go_at_call 11; refine (HR.out _).mono ?_; rintro e w' ⟨rfl, hb⟩; obtain ⟨hc, hf⟩ := bcell hb; have hz : w.heap.size < w'.heap.size := by (have := hb.size; simp at this; omega))
  go_ret2
  exact ⟨rfl, below_alloc (below_alloc (below_chain (below_alloc (Below.refl _ _) _) hb) _) _⟩

end Go.Proofs.Ytfckjilhkdlpfaa
