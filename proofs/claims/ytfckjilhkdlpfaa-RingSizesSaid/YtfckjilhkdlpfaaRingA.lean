/-
  Contracts of ring and mailsackref13: what each small function of the layer computes.
-/
import Derived.Test.YtfckjilhkdlpfaaProg
import Derived.Test.YtfckjilhkdlpfaaKit
namespace Go.Proofs.Ytfckjilhkdlpfaa
open Go.RowKit MS

theorem beq48 (a : Nat) : ((a : Int) == 48) = (a == 48) := beq_cast a 48

/-- What is right for salt, nonce and rounds. -/
def rwB (s n : ByteArray) (r : Int) : Bool := s.size == 16 && n.size == 12 && decide (1 ≤ r) && decide (r ≤ 64)

set_option maxHeartbeats 400000 in
theorem rightWrap_any (s n p : ByteArray) (r : Int) (w : World) :
    Calls Try.prog 18 #[.agg #[.string s, .string n, .string p, .int .i64 r]] w fun e w' => e = .returned (.bool (rwB s n r)) ∧ Below w.heap.size w w' := by
  go_enter Try.func18, Try.ntmps18
  go_wp2
  all_goals
    go_ret
    refine ⟨?_, (Below.refl _ _).alloc (Nat.le_refl _) _⟩
    unfold rwB
    simp [*]
    try omega

/-- A user's letter. -/
def letB (c : UInt8) : Bool := (decide (97 ≤ c.toNat) && decide (c.toNat ≤ 122)) || (decide (48 ≤ c.toNat) && decide (c.toNat ≤ 57))
def usrB (s : ByteArray) : Bool := decide (1 ≤ s.size) && decide (s.size ≤ 8) && s.data.toList.all letB
theorem let_cases (c : UInt8) :
    (letB c = false ∧ decide (97 ≤ (c.toNat : Int)) = false ∧ decide ((c.toNat : Int) ≤ 122) = true ∧ decide (48 ≤ (c.toNat : Int)) = false ∧ decide ((c.toNat : Int) ≤ 57) = true) ∨
    (letB c = true ∧ decide (97 ≤ (c.toNat : Int)) = false ∧ decide ((c.toNat : Int) ≤ 122) = true ∧ decide (48 ≤ (c.toNat : Int)) = true ∧ decide ((c.toNat : Int) ≤ 57) = true) ∨
    (letB c = false ∧ decide (97 ≤ (c.toNat : Int)) = false ∧ decide ((c.toNat : Int) ≤ 122) = true ∧ decide (48 ≤ (c.toNat : Int)) = true ∧ decide ((c.toNat : Int) ≤ 57) = false) ∨
    (letB c = true ∧ decide (97 ≤ (c.toNat : Int)) = true ∧ decide ((c.toNat : Int) ≤ 122) = true ∧ decide (48 ≤ (c.toNat : Int)) = true ∧ decide ((c.toNat : Int) ≤ 57) = false) ∨
    (letB c = false ∧ decide (97 ≤ (c.toNat : Int)) = true ∧ decide ((c.toNat : Int) ≤ 122) = false ∧ decide (48 ≤ (c.toNat : Int)) = true ∧ decide ((c.toNat : Int) ≤ 57) = false) := by
  have e : letB c = decide ((97 ≤ c.toNat ∧ c.toNat ≤ 122) ∨ (48 ≤ c.toNat ∧ c.toNat ≤ 57)) := by unfold letB; simp
  rw [e]
  simp only [decide_eq_true_eq, decide_eq_false_iff_not]
  omega
theorem usr_short {s : ByteArray} (h : s.size < 1) : usrB s = false := by unfold usrB; simp; omega
theorem usr_long {s : ByteArray} (h : 8 < s.size) : usrB s = false := by unfold usrB; simp; omega
theorem usr_no {s : ByteArray} (k : Nat) (h : k < s.size) (hl : letB s[k] = false) : usrB s = false := by
  unfold usrB
  have hk : k < s.data.size := h
  have : s.data.toList.all letB = false := by
    rw [List.all_eq_false]
    exact ⟨s[k], by simp [ByteArray.getElem_eq_getElem_data], by simp [hl]⟩
  simp [this]
theorem usr_yes {s : ByteArray} (h1 : 1 ≤ s.size) (h8 : s.size ≤ 8) (h : (s.data.toList.take s.size).all letB = true) : usrB s = true := by
  rw [List.take_of_length_le (by simp)] at h
  unfold usrB
  simp only [h, Bool.and_true, Bool.and_eq_true, decide_eq_true_eq]
  exact ⟨h1, h8⟩
theorem all_snoc {s : ByteArray} (k : Nat) (hk : k < s.size) (h : (s.data.toList.take k).all letB = true) (hl : letB s[k] = true) : (s.data.toList.take (k + 1)).all letB = true := by
  rw [take_snoc s k hk, List.all_append, h]; simp [hl]

set_option maxHeartbeats 400000 in
theorem rightUser_any (s : ByteArray) (w : World) :
    Calls Try.prog 12 #[.string s] w fun e w' => e = .returned (.bool (usrB s)) ∧ w = w' := by
  by_cases h1 : s.size < 1
  · have t1 : decide ((s.size : Int) < 1) = true := by simp; omega
    go_enter Try.func12, Try.ntmps12
    go_wp2
    go_ret
    exact ⟨by rw [usr_short h1]; rfl, rfl⟩
  · have t1 : decide ((s.size : Int) < 1) = false := by simp; omega
    by_cases h2 : 8 < s.size
    · have t2 : decide ((8 : Int) < s.size) = true := by simp; omega
      go_enter Try.func12, Try.ntmps12
      go_wp2
      go_ret
      exact ⟨by rw [usr_long h2]; rfl, rfl⟩
    · have t2 : decide ((8 : Int) < s.size) = false := by simp; omega
      go_enter Try.func12, Try.ntmps12
      go_wp2
      go_loop [14] (fun c => ∃ k : Nat, k ≤ s.size ∧ c = .int .i64 k ∧ (s.data.toList.take k).all letB = true) (fun c => s.size - (intOf c).toNat)
      case atStart => exact ⟨0, Nat.zero_le _, rfl, rfl⟩
      case round =>
        obtain ⟨k, hk, rfl, hall⟩ := hrel
        have HA := Lib.hid hall
        clear hall
        by_cases hlt : k < s.size
        · go_wp2
          all_goals first
            | (go_ret; exact ⟨by rw [usr_no k hlt (by unfold letB; simp; omega)]; rfl, rfl⟩)
            | (go_round; (case rel => exact ⟨k + 1, by omega, by go_num, all_snoc k hlt HA.out (by unfold letB; simp; omega)⟩); (case measure => simp [intOf]; omega))
        · go_wp2
          go_ret
          exact ⟨by rw [usr_yes (by omega) (by omega) (by have := HA.out; rwa [show k = s.size by omega] at this)]; rfl, rfl⟩

set_option maxHeartbeats 400000 in
theorem refUser_any (s : ByteArray) (hs : s.size ≤ 1000) (w : World) :
    Calls Try.prog 13 #[.string s] w fun e w' => e = .returned (.bool (usrB s)) ∧ w = w' := by
  go_enter Try.func13, Try.ntmps13
  go_wp2
  go_loop [3] (fun c => ∃ k : Nat, k ≤ s.size ∧ c = .int .i64 k ∧ (s.data.toList.take k).all letB = true) (fun c => s.size - (intOf c).toNat)
  case atStart => exact ⟨0, Nat.zero_le _, rfl, rfl⟩
  case round =>
    obtain ⟨k, hk, rfl, hall⟩ := hrel
    have HA := Lib.hid hall
    clear hall
    by_cases hlt : k < s.size
    · rcases let_cases s[k] with ⟨hl, t1, t2, t3, t4⟩ | ⟨hl, t1, t2, t3, t4⟩ | ⟨hl, t1, t2, t3, t4⟩ | ⟨hl, t1, t2, t3, t4⟩ | ⟨hl, t1, t2, t3, t4⟩
      all_goals
        have HL := Lib.hid hl
        clear hl
        go_wp2
      · go_ret
        exact ⟨by rw [usr_no k hlt HL.out]; rfl, rfl⟩
      · go_round
        case rel => exact ⟨k + 1, by omega, by go_num, all_snoc k hlt HA.out HL.out⟩
        case measure => simp [intOf]; omega
      · go_ret
        exact ⟨by rw [usr_no k hlt HL.out]; rfl, rfl⟩
      · go_round
        case rel => exact ⟨k + 1, by omega, by go_num, all_snoc k hlt HA.out HL.out⟩
        case measure => simp [intOf]; omega
      · go_ret
        exact ⟨by rw [usr_no k hlt HL.out]; rfl, rfl⟩
    · have hu : usrB s = (decide (0 < s.size) && decide (s.size < 9)) := by
        have hA := HA.out
        rw [show k = s.size by omega, List.take_of_length_le (by simp)] at hA
        unfold usrB
        rw [hA, Bool.and_true]
        congr 1 <;> (apply decide_eq_decide.2; omega)
      have HU := Lib.hid hu
      clear hu
      go_wp2
      all_goals
        go_ret
        refine ⟨?_, rfl⟩
        rw [HU.out]
        simp [*]
        try omega

/-- An account's cells. -/
structure Acc where
  user : ByteArray
  salt : ByteArray
  rounds : Int
  epoch : Int
  pub : ByteArray
  nonce : ByteArray
  wrapped : ByteArray
  old : ByteArray
def Acc.v (a : Acc) : Value := .agg #[.string a.user, .string a.salt, .int .i64 a.rounds, .int .i64 a.epoch, .string a.pub, .string a.nonce, .string a.wrapped, .string a.old]
def Acc.ok (a : Acc) : Bool :=
  usrB a.user && rwB a.salt a.nonce a.rounds && (a.epoch == 0 || a.epoch == 1) && a.pub.size == 32 && a.wrapped.size == 48 && (a.old.size == 0 || a.old.size == 48)

set_option maxHeartbeats 400000 in
theorem right_any (a : Acc) (w : World) :
    Calls Try.prog 11 #[a.v] w fun e w' => e = .returned (.bool a.ok) ∧ Below w.heap.size w w' := by
  obtain ⟨user, salt, rounds, epoch, pub, nonce, wrapped, old⟩ := a
  unfold Acc.v
  simp only
  go_enter Try.func11, Try.ntmps11
  go_wp2_with (first
    | (go_at_call 12; refine (rightUser_any _ _).mono ?_; rintro e w' ⟨rfl, rfl⟩)
    | (go_at_call 18; refine (rightWrap_any _ _ _ _ _).mono ?_; rintro e w' ⟨rfl, hb⟩; obtain ⟨hc, hf⟩ := bcell hb))
  all_goals
    go_ret
    refine ⟨?_, ?_⟩
    · unfold Acc.ok
      simp only [toList_nil] at *
      simp [isEmpty_size, beq48, *]
      try omega
    · first
        | exact (Below.refl _ _).alloc (Nat.le_refl _) _
        | exact ((Below.refl _ _).alloc (Nat.le_refl _) _).trans (hb.mono (by simp))
end Go.Proofs.Ytfckjilhkdlpfaa
