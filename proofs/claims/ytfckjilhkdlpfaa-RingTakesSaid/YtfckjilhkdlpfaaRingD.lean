/-
  Contracts of ring and mailsackref13: what is taken out of bytes.
-/
import Derived.Test.YtfckjilhkdlpfaaRingC
namespace Go.Proofs.Ytfckjilhkdlpfaa
open Go.RowKit MS

set_option maxHeartbeats 400000 in
theorem next_any (b : Nat) (s : ByteArray) (p n : Nat) (m : Int) (hm : m = n) (hn : p + n ≤ s.size) (w : World) (hc : w.cell? ⟨b, 0, none⟩ = some (.string (s.extract p s.size))) (hf : w.frozen? ⟨b, 0, none⟩ = false) :
    Calls Try.prog 19 #[.int .i64 m, .pointer (some ⟨b, 0, none⟩)] w fun e w' => e = .returned (.string (s.extract p (p + n))) ∧ w' = w.setCell ⟨b, 0, none⟩ (.string (s.extract (p + n) s.size)) := by
  subst hm
  have e1 := extract_head s p n hn
  have e2 := extract_tail s p n hn
  have z := size_extract_to s p
  have hz : n ≤ (s.extract p s.size).size := by omega
  go_enter Try.func19, Try.ntmps19
  go_wp2
  go_ret
  exact ⟨rfl, rfl⟩

/-- The account that bytes are, by their places. -/
def takeAcc (s : ByteArray) (k : Nat) : Acc :=
  ⟨s.extract 1 (1 + k), s.extract (1 + k) (1 + k + 16), ((ls s).getD (1 + k + 16) 0).toNat, ((ls s).getD (1 + k + 16 + 1) 0).toNat, s.extract (1 + k + 16 + 1 + 1) (1 + k + 16 + 1 + 1 + 32), s.extract (1 + k + 16 + 1 + 1 + 32) (1 + k + 16 + 1 + 1 + 32 + 12), s.extract (1 + k + 16 + 1 + 1 + 32 + 12) (1 + k + 16 + 1 + 1 + 32 + 12 + 48), s.extract (1 + k + 16 + 1 + 1 + 32 + 12 + 48) s.size⟩
theorem byte_at (s : ByteArray) (p : Nat) (hp : p < s.size) (h : 0 < (s.extract p (p + 1)).size) : ((s.extract p (p + 1))[0]'h) = (ls s).getD p 0 := by
  rw [get_ls]
  have hl : p < (ls s).length := by rw [length_ls]; exact hp
  rw [List.getD_eq_getElem?_getD, List.getElem?_eq_getElem hl, Option.getD_some]
  have e : ls (s.extract p (p + 1)) = [(ls s)[p]] := by
    rw [ls_extract, Nat.add_sub_cancel_left, List.drop_eq_getElem_cons hl]; rfl
  simp [e]

/-- No account. -/
def noAcc : Acc := ⟨bs [], bs [], 0, 0, bs [], bs [], bs [], bs []⟩
/-- What Take answers. -/
def TakeP (a : Acc) (e : Ending) : Prop := (a.ok = true → e = .returned (.tuple #[a.v, .int .i64 0])) ∧ (a.ok = false → e = .returned (.tuple #[noAcc.v, .int .i64 3]))

theorem takeP_no {a : Acc} (h : a.ok = false) : TakeP a (.returned (.tuple #[noAcc.v, .int .i64 3])) := ⟨fun h' => (by rw [h] at h'; cases h'), fun _ => rfl⟩
theorem takeP_yes {a : Acc} (h : a.ok = true) : TakeP a (.returned (.tuple #[a.v, .int .i64 0])) := ⟨fun _ => rfl, fun h' => (by rw [h] at h'; cases h')⟩
set_option maxHeartbeats 2000000 in
theorem take_core (s : ByteArray) (k R E : Nat) (h0 : 0 < s.size) (hk : (s[0]'h0).toNat = k) (hl : 111 + k ≤ s.size) (hm : s.size ≤ 100000) (hR : R ≤ 255) (hE : E ≤ 255)
    (x1 : ∀ h, ((s.extract (1 + k + 16) (1 + k + 16 + 1))[0]'h).toNat = R) (x2 : ∀ h, ((s.extract (1 + k + 16 + 1) (1 + k + 16 + 1 + 1))[0]'h).toNat = E) (a : Acc)
    (ha : a = ⟨s.extract 1 (1 + k), s.extract (1 + k) (1 + k + 16), R, E, s.extract (1 + k + 16 + 1 + 1) (1 + k + 16 + 1 + 1 + 32), s.extract (1 + k + 16 + 1 + 1 + 32) (1 + k + 16 + 1 + 1 + 32 + 12), s.extract (1 + k + 16 + 1 + 1 + 32 + 12) (1 + k + 16 + 1 + 1 + 32 + 12 + 48), s.extract (1 + k + 16 + 1 + 1 + 32 + 12 + 48) s.size⟩) (w : World) :
    Calls Try.prog 14 #[.string s] w fun e w' => TakeP a e ∧ Below w.heap.size w w' := by
  have t1 : s.toList.isEmpty = false := by rw [isEmpty_size, beq_eq_false_iff_ne]; omega
  have hk' : k ≤ 255 := by have := (s[0]'h0).toNat_lt; omega
  have t2 : decide ((↑(s.size - 1) : Int) < ↑k + 16 + 2 + 32 + 12 + 48) = false := by simp; omega
  have HA := Lib.hid ha
  clear ha
  go_enter Try.func14, Try.ntmps14
  go_wp2_with fail
  refine (next_any _ s 1 k _ rfl (by omega) _ (by simp [go_sem]) (by simp [go_sem])).mono ?_
  rintro e w' ⟨rfl, rfl⟩
  go_wp2_with fail
  refine (next_any _ s (1 + k) 16 16 (by decide) (by omega) _ (by simp [go_sem]) (by simp [go_sem])).mono ?_
  rintro e w' ⟨rfl, rfl⟩
  go_wp2_with fail
  refine (next_any _ s (1 + k + 16) 1 1 (by decide) (by omega) _ (by simp [go_sem]) (by simp [go_sem])).mono ?_
  rintro e w' ⟨rfl, rfl⟩
  go_wp2_with fail
  refine (next_any _ s (1 + k + 16 + 1) 1 1 (by decide) (by omega) _ (by simp [go_sem]) (by simp [go_sem])).mono ?_
  rintro e w' ⟨rfl, rfl⟩
  go_wp2_with fail
  refine (next_any _ s (1 + k + 16 + 1 + 1) 32 32 (by decide) (by omega) _ (by simp [go_sem]) (by simp [go_sem])).mono ?_
  rintro e w' ⟨rfl, rfl⟩
  go_wp2_with fail
  refine (next_any _ s (1 + k + 16 + 1 + 1 + 32) 12 12 (by decide) (by omega) _ (by simp [go_sem]) (by simp [go_sem])).mono ?_
  rintro e w' ⟨rfl, rfl⟩
  go_wp2_with fail
  refine (next_any _ s (1 + k + 16 + 1 + 1 + 32 + 12) 48 48 (by decide) (by omega) _ (by simp [go_sem]) (by simp [go_sem])).mono ?_
  rintro e w' ⟨rfl, rfl⟩
  go_wp2_with fail
  refine (right_any ⟨s.extract 1 (1 + k), s.extract (1 + k) (1 + k + 16), R, E, s.extract (1 + k + 16 + 1 + 1) (1 + k + 16 + 1 + 1 + 32), s.extract (1 + k + 16 + 1 + 1 + 32) (1 + k + 16 + 1 + 1 + 32 + 12), s.extract (1 + k + 16 + 1 + 1 + 32 + 12) (1 + k + 16 + 1 + 1 + 32 + 12 + 48), s.extract (1 + k + 16 + 1 + 1 + 32 + 12 + 48) s.size⟩ _).mono ?_
  rintro e w' ⟨rfl, hb⟩
  obtain ⟨hc, hf⟩ := bcell hb
  rw [← HA.out]
  have g0 : w'.cell? ⟨w.heap.size, 0, none⟩ = some (.string ⟨#[]⟩) := by rw [hc _ _ (by simp; omega)]; simp [go_sem]
  have g1 : w'.cell? ⟨w.heap.size, 1, none⟩ = some (.string ⟨#[]⟩) := by rw [hc _ _ (by simp; omega)]; simp [go_sem]
  have g2 : w'.cell? ⟨w.heap.size, 2, none⟩ = some (.int .i64 0) := by rw [hc _ _ (by simp; omega)]; simp [go_sem]
  have g3 : w'.cell? ⟨w.heap.size, 3, none⟩ = some (.int .i64 0) := by rw [hc _ _ (by simp; omega)]; simp [go_sem]
  have g4 : w'.cell? ⟨w.heap.size, 4, none⟩ = some (.string ⟨#[]⟩) := by rw [hc _ _ (by simp; omega)]; simp [go_sem]
  have g5 : w'.cell? ⟨w.heap.size, 5, none⟩ = some (.string ⟨#[]⟩) := by rw [hc _ _ (by simp; omega)]; simp [go_sem]
  have g6 : w'.cell? ⟨w.heap.size, 6, none⟩ = some (.string ⟨#[]⟩) := by rw [hc _ _ (by simp; omega)]; simp [go_sem]
  have g7 : w'.cell? ⟨w.heap.size, 7, none⟩ = some (.string ⟨#[]⟩) := by rw [hc _ _ (by simp; omega)]; simp [go_sem]
  go_wp2_with fail
  · rename_i hno
    have hno' : a.ok = false := by simpa using hno
    refine bodyPost_ret (v := .tuple #[noAcc.v, .int .i64 3]) (by simp [results, Try.results14, go_sem, noAcc, Acc.v, bs, g0, g1, g2, g3, g4, g5, g6, g7]) rfl ⟨takeP_no hno', ?_⟩
    repeat (first | (with_reducible exact Below.refl _ _) | (with_reducible refine below_setCell ?_ (by simp) _) | (with_reducible apply below_alloc) | (with_reducible refine below_chain ?_ hb))
  · rename_i hyes
    have hyes' : a.ok = true := by simpa using hyes
    refine bodyPost_ret (v := .tuple #[a.v, .int .i64 0]) (by rw [HA.out]; simp [results, Try.results14, go_sem, Acc.v, g0, g1, g2, g3, g4, g5, g6, g7]) rfl ⟨takeP_yes hyes', ?_⟩
    repeat (first | (with_reducible exact Below.refl _ _) | (with_reducible refine below_setCell ?_ (by simp) _) | (with_reducible apply below_alloc) | (with_reducible refine below_chain ?_ hb))

set_option maxHeartbeats 400000 in
theorem take_short (s : ByteArray) (hs : s.size = 0 ∨ ∃ h : 0 < s.size, s.size < 111 + (s[0]'h).toNat) (hm : s.size ≤ 100000) (w : World) :
    Calls Try.prog 14 #[.string s] w fun e w' => e = .returned (.tuple #[noAcc.v, .int .i64 3]) ∧ Below w.heap.size w w' := by
  rcases hs with hs | ⟨h0, hs⟩
  · have t1 : s.toList.isEmpty = true := by rw [isEmpty_size, hs]; rfl
    have HS := Lib.hid hs
    clear hs
    go_enter Try.func14, Try.ntmps14
    go_wp2_with fail
    refine bodyPost_ret (v := .tuple #[noAcc.v, .int .i64 3]) (by simp [results, Try.results14, go_sem, noAcc, Acc.v, bs]) rfl ⟨rfl, ?_⟩
    repeat (first | (with_reducible exact Below.refl _ _) | (with_reducible refine below_setCell ?_ (by simp) _) | (with_reducible apply below_alloc))
  · have t1 : s.toList.isEmpty = false := by rw [isEmpty_size, beq_eq_false_iff_ne]; omega
    have hk' : (s[0]'h0).toNat ≤ 255 := by have := (s[0]'h0).toNat_lt; omega
    have t2 : decide ((↑(s.size - 1) : Int) < ↑(s[0]'h0).toNat + 16 + 2 + 32 + 12 + 48) = true := by simp; omega
    obtain ⟨k, hk⟩ : ∃ k, (s[0]'h0).toNat = k := ⟨_, rfl⟩
    rw [hk] at hk' t2 hs
    go_enter Try.func14, Try.ntmps14
    go_wp2_with fail
    refine bodyPost_ret (v := .tuple #[noAcc.v, .int .i64 3]) (by simp [results, Try.results14, go_sem, noAcc, Acc.v, bs]) rfl ⟨rfl, ?_⟩
    repeat (first | (with_reducible exact Below.refl _ _) | (with_reducible refine below_setCell ?_ (by simp) _) | (with_reducible apply below_alloc))

theorem takeAcc_eq (s : ByteArray) (k : Nat) (hl : 111 + k ≤ s.size) :
    (∀ h, ((s.extract (1 + k + 16) (1 + k + 16 + 1))[0]'h).toNat = ((ls s).getD (1 + k + 16) 0).toNat) ∧ (∀ h, ((s.extract (1 + k + 16 + 1) (1 + k + 16 + 1 + 1))[0]'h).toNat = ((ls s).getD (1 + k + 16 + 1) 0).toNat) :=
  ⟨fun h => by rw [byte_at s _ (by omega) h], fun h => by rw [byte_at s _ (by omega) h]⟩
theorem take_any (s : ByteArray) (k : Nat) (h0 : 0 < s.size) (hk : (s[0]'h0).toNat = k) (hl : 111 + k ≤ s.size) (hm : s.size ≤ 100000) (w : World) :
    Calls Try.prog 14 #[.string s] w fun e w' => TakeP (takeAcc s k) e ∧ Below w.heap.size w w' := by
  obtain ⟨x1, x2⟩ := takeAcc_eq s k hl
  exact take_core s k _ _ h0 hk hl hm (by have := UInt8.toNat_lt ((ls s).getD (1 + k + 16) 0); omega) (by have := UInt8.toNat_lt ((ls s).getD (1 + k + 16 + 1) 0); omega) x1 x2 _ rfl w
end Go.Proofs.Ytfckjilhkdlpfaa
