/-
  Contracts: mailsackref13.Take; short; the fixed answer.
-/
import Derived.Test.YtfckjilhkdlpfaaRingE
namespace Go.Proofs.Ytfckjilhkdlpfaa
open Go.RowKit MS

/-- What the document's Take answers. -/
def RTakeP (a : Acc) (e : Ending) : Prop := (a.ok = true → e = .returned (.tuple #[a.v, .bool true])) ∧ (a.ok = false → e = .returned (.tuple #[noAcc.v, .bool false]))
theorem rtakeP_no {a : Acc} (h : a.ok = false) : RTakeP a (.returned (.tuple #[noAcc.v, .bool false])) := ⟨fun h' => (by rw [h] at h'; cases h'), fun _ => rfl⟩
theorem rtakeP_yes {a : Acc} (h : a.ok = true) : RTakeP a (.returned (.tuple #[a.v, .bool true])) := ⟨fun _ => rfl, fun h' => (by rw [h] at h'; cases h')⟩

theorem tail_at (s : ByteArray) (p j : Nat) (h : j < (s.extract p s.size).size) : ((s.extract p s.size)[j]'h) = (ls s).getD (p + j) 0 := by
  rw [get_ls]
  have hz := size_extract_to s p
  have hl : p + j < (ls s).length := by rw [length_ls]; omega
  rw [List.getD_eq_getElem?_getD, List.getElem?_eq_getElem hl, Option.getD_some]
  simp only [ls_extract, List.getElem_take, List.getElem_drop]
theorem extract_mid2 (s : ByteArray) (p a b : Nat) (h : p + b ≤ s.size) : (s.extract p s.size).extract a b = s.extract (p + a) (p + b) := by
  apply ls_inj
  rw [ls_extract, ls_extract, ls_extract, List.drop_take, List.drop_drop, List.take_take]
  congr 1
  omega

set_option maxHeartbeats 2000000 in
theorem refTake_core (s : ByteArray) (k R E : Nat) (h0 : 0 < s.size) (hk : (s[0]'h0).toNat = k) (hl : 111 + k ≤ s.size) (hm : s.size ≤ 100000) (hR : R ≤ 255) (hE : E ≤ 255)
    (x1 : ∀ h, ((s.extract (1 + k) s.size)[16]'h).toNat = R) (x2 : ∀ h, ((s.extract (1 + k) s.size)[17]'h).toNat = E) (a : Acc)
    (ha : a = ⟨s.extract 1 (1 + k), s.extract (1 + k) (1 + k + 16), R, E, s.extract (1 + k + 16 + 1 + 1) (1 + k + 16 + 1 + 1 + 32), s.extract (1 + k + 16 + 1 + 1 + 32) (1 + k + 16 + 1 + 1 + 32 + 12), s.extract (1 + k + 16 + 1 + 1 + 32 + 12) (1 + k + 16 + 1 + 1 + 32 + 12 + 48), s.extract (1 + k + 16 + 1 + 1 + 32 + 12 + 48) s.size⟩) (w : World) :
    Calls Try.prog 16 #[.string s] w fun e w' => RTakeP a e ∧ Below w.heap.size w w' := by
  have hk' : k ≤ 255 := by have := (s[0]'h0).toNat_lt; omega
  have t1 : ((s.size : Int) == 0) = false := by rw [beq_eq_false_iff_ne]; omega
  have t2 : decide ((s.size : Int) < 111 + ↑k) = false := by simp; omega
  have z := size_extract_to s (1 + k)
  have m1 := extract_mid2 s (1 + k) 0 16 (by omega)
  have m2 := extract_mid2 s (1 + k) 18 50 (by omega)
  have m3 := extract_mid2 s (1 + k) 50 62 (by omega)
  have m4 := extract_mid2 s (1 + k) 62 110 (by omega)
  have m5 := extract_tail s (1 + k) 110 (by omega)
  rw [show 1 + k + 0 = 1 + k by omega] at m1
  rw [show 1 + k + 18 = 1 + k + 16 + 1 + 1 by omega, show 1 + k + 50 = 1 + k + 16 + 1 + 1 + 32 by omega] at m2
  rw [show 1 + k + 50 = 1 + k + 16 + 1 + 1 + 32 by omega, show 1 + k + 62 = 1 + k + 16 + 1 + 1 + 32 + 12 by omega] at m3
  rw [show 1 + k + 62 = 1 + k + 16 + 1 + 1 + 32 + 12 by omega, show 1 + k + 110 = 1 + k + 16 + 1 + 1 + 32 + 12 + 48 by omega] at m4
  rw [show 1 + k + 110 = 1 + k + 16 + 1 + 1 + 32 + 12 + 48 by omega] at m5
  have HA := Lib.hid ha
  clear ha
  have w1 : IntKind.i64.wrap (1 + (k : Int)) = 1 + (k : Int) := IntWalk.i64_in _ (by omega)
  have w2 : (1 + (k : Int)).toNat = 1 + k := by omega
  have b1 : (1 : Int) ≤ 1 + (k : Int) := by omega
  have b2 : 1 + (k : Int) ≤ (s.size : Int) := by omega
  have c16 : (16 : Int) ≤ ((s.size - (1 + k) : Nat) : Int) := by omega
  have n16 : 16 ≤ s.size - (1 + k) := by omega
  have c18 : (18 : Int) ≤ ((s.size - (1 + k) : Nat) : Int) := by omega
  have n18 : 18 ≤ s.size - (1 + k) := by omega
  have c50 : (50 : Int) ≤ ((s.size - (1 + k) : Nat) : Int) := by omega
  have n50 : 50 ≤ s.size - (1 + k) := by omega
  have c62 : (62 : Int) ≤ ((s.size - (1 + k) : Nat) : Int) := by omega
  have n62 : 62 ≤ s.size - (1 + k) := by omega
  have c110 : (110 : Int) ≤ ((s.size - (1 + k) : Nat) : Int) := by omega
  have n110 : 110 ≤ s.size - (1 + k) := by omega
  have d16 : (16 : Int) < ((s.size - (1 + k) : Nat) : Int) := by omega
  have l16 : 16 < s.size - (1 + k) := by omega
  have d17 : (17 : Int) < ((s.size - (1 + k) : Nat) : Int) := by omega
  have l17 : 17 < s.size - (1 + k) := by omega
  have b4 : (0 : Int) ≤ 1 + (k : Int) := by omega
  go_enter Try.func16, Try.ntmps16
  go_wp2_with fail
  go_region_held3 (fun _ => True) (trivial) (fail)
  go_wp2_with fail
  all_goals
    refine (refRight_any ⟨s.extract 1 (1 + k), s.extract (1 + k) (1 + k + 16), R, E, s.extract (1 + k + 16 + 1 + 1) (1 + k + 16 + 1 + 1 + 32), s.extract (1 + k + 16 + 1 + 1 + 32) (1 + k + 16 + 1 + 1 + 32 + 12), s.extract (1 + k + 16 + 1 + 1 + 32 + 12) (1 + k + 16 + 1 + 1 + 32 + 12 + 48), s.extract (1 + k + 16 + 1 + 1 + 32 + 12 + 48) s.size⟩ (by simp only [ByteArray.size_extract]; omega) _).mono ?_
    rintro e w' ⟨rfl, hb⟩
    obtain ⟨hc, hf⟩ := bcell hb
    rw [← HA.out]
    have g0 : w'.cell? ⟨w.heap.size, 0, none⟩ = some (.string ⟨#[]⟩) := by rw [hc _ _ (by simp; omega)]; simp [go_sem]
    have g1 : w'.cell? ⟨w.heap.size, 1, none⟩ = some (.string ⟨#[]⟩) := by rw [hc _ _ (by simp; omega)]; simp [go_sem]
    have g2 : w'.cell? ⟨w.heap.size, 2, none⟩ = some (.int .i64 0) := by rw [hc _ _ (by simp; omega)]; simp [go_sem]
    have g3 : w'.cell? ⟨w.heap.size, 3, none⟩ = some (.int .i64 0) := by rw [hc _ _ (by simp; omega)]; simp [go_sem]
    have g4 : w'.cell? ⟨w.heap.size, 4, none⟩ = some (.string ⟨#[]⟩) := by rw [hc _ _ (by simp; omega)]; simp [go_sem]
    have g5 : w'.cell? ⟨w.heap.size, 5, none⟩ = some (.string ⟨#[]⟩) := by rw [hc _ _ (by simp; omega)]; simp [go_sem]
    have g6 : w'.cell? ⟨w.heap.size, 6, none⟩ = some (.string ⟨#[]⟩) := by rw [hc _ _ (by simp; omega)]; simp [go_sem]
    have g7 : w'.cell? ⟨w.heap.size, 7, none⟩ = some (.string ⟨#[]⟩) := by rw [hc _ _ (by simp; omega)]; simp [go_sem]
    go_wp2_with fail
    · rename_i hno
      have hno' : a.ok = false := by simpa using hno
      refine bodyPost_ret (v := .tuple #[noAcc.v, .bool false]) (by simp [results, Try.results16, go_sem, noAcc, Acc.v, bs, g0, g1, g2, g3, g4, g5, g6, g7]) rfl ⟨rtakeP_no hno', ?_⟩
      repeat (first | (with_reducible exact Below.refl _ _) | (with_reducible refine below_setCell ?_ (by simp) _) | (with_reducible apply below_alloc) | (with_reducible apply Below.drew) | (with_reducible refine below_chain ?_ hb))
    · rename_i hyes
      have hyes' : a.ok = true := by simpa using hyes
      refine bodyPost_ret (v := .tuple #[a.v, .bool true]) (by rw [HA.out]; simp [results, Try.results16, go_sem, Acc.v, g0, g1, g2, g3, g4, g5, g6, g7]) rfl ⟨rtakeP_yes hyes', ?_⟩
      repeat (first | (with_reducible exact Below.refl _ _) | (with_reducible refine below_setCell ?_ (by simp) _) | (with_reducible apply below_alloc) | (with_reducible apply Below.drew) | (with_reducible refine below_chain ?_ hb))

set_option maxHeartbeats 400000 in
theorem refTake_short (s : ByteArray) (hs : s.size = 0 ∨ ∃ h : 0 < s.size, s.size < 111 + (s[0]'h).toNat) (hm : s.size ≤ 100000) (w : World) :
    Calls Try.prog 16 #[.string s] w fun e w' => e = .returned (.tuple #[noAcc.v, .bool false]) ∧ Below w.heap.size w w' := by
  rcases hs with hs | ⟨h0, hs⟩
  · have t1 : ((s.size : Int) == 0) = true := by rw [beq_iff_eq]; omega
    have HS := Lib.hid hs
    clear hs
    go_enter Try.func16, Try.ntmps16
    go_wp2_with fail
    refine bodyPost_ret (v := .tuple #[noAcc.v, .bool false]) (by simp [results, Try.results16, go_sem, noAcc, Acc.v, bs]) rfl ⟨rfl, ?_⟩
    repeat (first | (with_reducible exact Below.refl _ _) | (with_reducible refine below_setCell ?_ (by simp) _) | (with_reducible apply below_alloc))
  · have t1 : ((s.size : Int) == 0) = false := by rw [beq_eq_false_iff_ne]; omega
    have hk' : (s[0]'h0).toNat ≤ 255 := by have := (s[0]'h0).toNat_lt; omega
    have t2 : decide ((s.size : Int) < 111 + ↑(s[0]'h0).toNat) = true := by simp; omega
    obtain ⟨k, hk⟩ : ∃ k, (s[0]'h0).toNat = k := ⟨_, rfl⟩
    rw [hk] at hk' t2 hs
    go_enter Try.func16, Try.ntmps16
    go_wp2_with fail
    refine bodyPost_ret (v := .tuple #[noAcc.v, .bool false]) (by simp [results, Try.results16, go_sem, noAcc, Acc.v, bs]) rfl ⟨rfl, ?_⟩
    repeat (first | (with_reducible exact Below.refl _ _) | (with_reducible refine below_setCell ?_ (by simp) _) | (with_reducible apply below_alloc))

/-- Are the texts short? -/
def Acc.short (a : Acc) : Bool := decide (a.user.size ≤ 300 ∧ a.salt.size ≤ 100 ∧ a.pub.size ≤ 100 ∧ a.nonce.size ≤ 100 ∧ a.wrapped.size ≤ 100 ∧ a.old.size ≤ 400)
set_option maxHeartbeats 1000000 in
theorem short_any (a : Acc) (w : World) :
    Calls Try.prog 6 #[a.v, .agg #[.string ⟨#[]⟩, .string ⟨#[]⟩, .string ⟨#[]⟩, .int .i64 0]] w fun e w' => e = .returned (.bool a.short) ∧ Below w.heap.size w w' := by
  obtain ⟨user, salt, rounds, epoch, pub, nonce, wrapped, old⟩ := a
  unfold Acc.v
  simp only
  go_enter Try.func6, Try.ntmps6
  go_wp2_with fail
  all_goals
    go_ret
    refine ⟨?_, below_alloc (below_alloc (Below.refl _ _) _) _⟩
    unfold Acc.short
    simp [*]
    try omega

theorem refTake_any (s : ByteArray) (k : Nat) (h0 : 0 < s.size) (hk : (s[0]'h0).toNat = k) (hl : 111 + k ≤ s.size) (hm : s.size ≤ 100000) (w : World) :
    Calls Try.prog 16 #[.string s] w fun e w' => RTakeP (takeAcc s k) e ∧ Below w.heap.size w w' := by
  refine refTake_core s k _ _ h0 hk hl hm (by have := UInt8.toNat_lt ((ls s).getD (1 + k + 16) 0); omega) (by have := UInt8.toNat_lt ((ls s).getD (1 + k + 16 + 1) 0); omega) (fun h => ?_) (fun h => ?_) _ rfl w
  · rw [tail_at s _ _ h]
  · rw [tail_at s _ _ h]
end Go.Proofs.Ytfckjilhkdlpfaa
