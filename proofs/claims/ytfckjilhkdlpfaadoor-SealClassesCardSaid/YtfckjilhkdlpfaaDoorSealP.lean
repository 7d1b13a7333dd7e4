/-
  Padding: plain facts. No program stands in them.
-/
import Derived.Test.YtfckjilhkdlpfaaDoorPolQ
namespace MS
/-- The class of n bytes. -/
def clsN (n : Nat) : Nat := if n ≤ 126 then 128 else if n ≤ 254 then 256 else if n ≤ 510 then 512 else 704
def clsI (n : Int) : Nat := if n < 0 ∨ n > 700 then 0 else clsN n.toNat
theorem clsI_nat (n : Nat) (h : n ≤ 700) : clsI (n : Int) = clsN n := by rw [clsI, if_neg (by omega), Int.toNat_natCast]
theorem clsI_big (n : Int) (h : n < 0 ∨ n > 700) : clsI n = 0 := if_pos h
theorem clsN_ge (n : Nat) (h : n ≤ 700) : n + 2 ≤ clsN n := by unfold clsN; split <;> (try split) <;> (try split) <;> omega
theorem clsN_cases (n : Nat) : clsN n = 128 ∨ clsN n = 256 ∨ clsN n = 512 ∨ clsN n = 704 := by unfold clsN; split <;> (try split) <;> (try split) <;> simp
theorem clsN_mono (a b : Nat) (h : a ≤ b) : clsN a ≤ clsN b := by unfold clsN; (repeat' split) <;> omega
theorem clsN_le (n : Nat) : clsN n ≤ 704 := by rcases clsN_cases n with h | h | h | h <;> omega
/-- Padded. -/
def spadL (l : List UInt8) : List UInt8 := UInt8.ofNat (l.length % 256) :: UInt8.ofNat (l.length / 256) :: (l ++ List.replicate (clsN l.length - 2 - l.length) 0)
theorem length_spadL (l : List UInt8) (h : l.length ≤ 700) : (spadL l).length = clsN l.length := by
  have := clsN_ge l.length h
  simp [spadL]; omega
def spadB (s : ByteArray) : ByteArray := bs (spadL (ls s))
theorem size_spadB (s : ByteArray) (h : s.size ≤ 700) : (spadB s).size = clsN s.size := by
  rw [spadB, size_bs, length_spadL _ (by rw [length_ls]; exact h), length_ls]
/-- What was padded. -/
def lenB (s : ByteArray) : Nat := ((ls s).getD 0 0).toNat + 256 * ((ls s).getD 1 0).toNat
def unpadB (s : ByteArray) : Option ByteArray :=
  if s.size < 2 ∨ 700 < lenB s ∨ clsN (lenB s) ≠ s.size then none
  else if (ls s).drop (2 + lenB s) = List.replicate (s.size - (2 + lenB s)) 0 then some (s.extract 2 (2 + lenB s)) else none
theorem pad_len (s : ByteArray) (h : s.size ≤ 700) : lenB (spadB s) = s.size := by
  have hl := length_ls s
  unfold lenB spadB
  rw [ls_bs, spadL]
  show (UInt8.ofNat ((ls s).length % 256)).toNat + 256 * (UInt8.ofNat ((ls s).length / 256)).toNat = s.size
  rw [UInt8.toNat_ofNat', UInt8.toNat_ofNat', hl]
  omega
theorem unpad_pad (s : ByteArray) (h : s.size ≤ 700) : unpadB (spadB s) = some s := by
  have hl := length_ls s
  have h1 := pad_len s h
  have h2 := size_spadB s h
  have h3 := clsN_ge s.size h
  rw [unpadB, h1, h2, if_neg (by omega)]
  have e1 : (ls (spadB s)).drop (2 + s.size) = List.replicate (clsN s.size - (2 + s.size)) 0 := by
    rw [spadB, ls_bs, spadL, Nat.add_comm, List.drop_succ_cons, List.drop_succ_cons, List.drop_left' hl, hl]
    congr 1
    omega
  rw [if_pos e1]
  congr 1
  apply ls_inj
  rw [ls_extract, spadB, ls_bs, spadL, List.drop_succ_cons, List.drop_succ_cons, List.drop_zero, Nat.add_sub_cancel_left, List.take_left' hl]
/-- It is what was padded, just if, padded, it is the whole. -/
theorem unpad_some (s : ByteArray) (n : Nat) (hn : n = lenB s) (h2 : n + 2 ≤ s.size) (h7 : n ≤ 700) : spadB (s.extract 2 (2 + n)) = s ↔ clsN n = s.size ∧ (ls s).drop (2 + n) = List.replicate (s.size - (2 + n)) 0 := by
  have hl := length_ls s
  have hz : (s.extract 2 (2 + n)).size = n := by rw [ByteArray.size_extract]; omega
  have hls : ls (s.extract 2 (2 + n)) = ((ls s).drop 2).take n := by rw [ls_extract, Nat.add_sub_cancel_left]
  constructor
  · intro h
    have h3 := size_spadB (s.extract 2 (2 + n)) (by omega)
    rw [h, hz] at h3
    refine ⟨h3.symm, ?_⟩
    conv => lhs; rw [← h]
    have ed : ∀ (a b : UInt8) (t : List UInt8), (a :: b :: t).drop (2 + n) = t.drop n := fun a b t => by rw [Nat.add_comm, List.drop_succ_cons, List.drop_succ_cons]
    rw [spadB, ls_bs, spadL, ed, List.drop_left' (by rw [length_ls, hz]), length_ls, hz]
    congr 1
    omega
  · rintro ⟨h3, h4⟩
    apply ls_inj
    rw [spadB, ls_bs, spadL, length_ls, hz, hls]
    obtain ⟨a, b, t, hs⟩ : ∃ a b t, ls s = a :: b :: t := by
      cases h : ls s with
      | nil => rw [h] at hl; simp at hl; omega
      | cons a t =>
        cases t with
        | nil => rw [h] at hl; simp at hl; omega
        | cons b t => exact ⟨a, b, t, rfl⟩
    have hn' : n = a.toNat + 256 * b.toNat := by rw [hn, lenB, hs]; rfl
    have ha := a.toNat_lt
    have hb := b.toNat_lt
    rw [hs] at h4 ⊢
    rw [Nat.add_comm, List.drop_succ_cons, List.drop_succ_cons] at h4
    rw [List.drop_succ_cons, List.drop_succ_cons, List.drop_zero]
    have e1 : UInt8.ofNat (n % 256) = a := UInt8.toNat_inj.1 (by rw [UInt8.toNat_ofNat']; omega)
    have e2 : UInt8.ofNat (n / 256) = b := UInt8.toNat_inj.1 (by rw [UInt8.toNat_ofNat']; omega)
    rw [e1, e2]
    congr 2
    have e3 : clsN n - 2 - n = s.size - (2 + n) := by omega
    rw [e3, show s.size - (2 + n) = s.size - (n + 2) by omega, ← h4, List.take_append_drop]
theorem unpad_is {s t : ByteArray} (h : unpadB s = some t) : t = s.extract 2 (2 + lenB s) ∧ t.size = lenB s ∧ lenB s ≤ 700 := by
  unfold unpadB at h
  split at h
  · cases h
  · split at h
    · cases h
      rename_i h1 _
      have := clsN_ge (lenB s) (by omega)
      refine ⟨rfl, ?_, by omega⟩
      rw [ByteArray.size_extract]
      omega
    · cases h
end MS
