/-
  sha: the whole padded text; hashing all its blocks is what the Sum does.
-/
import Derived.Test.YtkbfflnjbafamaaDoorShaW
namespace Go.Proofs.YtkbfflnjbafamaaDoor
open Go.RowKit MS

theorem hs_add (bw : Nat → Nat → W32) (st : Array W32) (a b : Nat) : hs bw st (a + b) = hs (fun m => bw (a + m)) (hs bw st a) b := by
  induction b with
  | zero => rfl
  | succ b ih => rw [← Nat.add_assoc, hs, ih, hs]
theorem hs_congr (bw bw' : Nat → Nat → W32) (st : Array W32) (n : Nat) (h : ∀ m, m < n → bw m = bw' m) : hs bw st n = hs bw' st n := by
  induction n with
  | zero => rfl
  | succ n ih => rw [hs, hs, ih (fun m hm => h m (by omega)), h n (by omega)]
def padZ (n : Nat) : Nat := (119 - n % 64) % 64
def padL (s : ByteArray) : List UInt8 := (ls s ++ 128 :: List.replicate (padZ s.size) 0) ++ be8 (s.size * 8)
def padB (s : ByteArray) : ByteArray := bs (padL s)
theorem padL_split (s : ByteArray) : padL s = (ls s).take (64 * (s.size / 64)) ++ endL (ls (s.extract (64 * (s.size / 64)) s.size)) (s.size * 8) := by
  have h1 : ls (s.extract (64 * (s.size / 64)) s.size) = (ls s).drop (64 * (s.size / 64)) := by
    rw [ls_extract, List.take_of_length_le]
    rw [List.length_drop, length_ls]; omega
  have h2 : ((ls s).drop (64 * (s.size / 64))).length = s.size % 64 := by rw [List.length_drop, length_ls]; omega
  rw [h1, endL, h2]
  have h3 : (if s.size % 64 + 9 > 64 then 128 else 64) - s.size % 64 - 9 = padZ s.size := by
    unfold padZ
    split <;> omega
  rw [h3, padL, ← List.append_assoc, ← List.append_assoc, List.take_append_drop]
theorem length_padL (s : ByteArray) : (padL s).length = 64 * (s.size / 64) + (lastB s).size := by
  rw [padL_split, List.length_append, List.length_take, length_ls, Nat.min_eq_left (by omega), lastB, size_bs]
theorem size_padB (s : ByteArray) : (padB s).size = s.size + 9 + padZ s.size := by
  rw [padB, size_bs, padL]
  simp [length_ls, be8]
  omega
theorem size_padB_mod (s : ByteArray) : (padB s).size % 64 = 0 := by
  rw [size_padB]; unfold padZ; omega
theorem size_lastB (s : ByteArray) : (lastB s).size = 64 ∨ (lastB s).size = 128 := by
  rw [lastB, size_bs, length_endL _ _ (by rw [length_ls, size_ext]; omega)]
  split <;> omega
theorem bwT_pad_low (s : ByteArray) (m : Nat) (h : m < s.size / 64) : bwT (padB s) m = bwT s m := by
  unfold bwT
  congr 1
  apply ls_inj
  rw [ls_extract, ls_extract, padB, ls_bs, padL_split]
  apply List.ext_getElem?
  intro j
  simp only [List.getElem?_take, List.getElem?_drop]
  by_cases hj : j < 64 * m + 64 - 64 * m
  · rw [if_pos hj, if_pos hj, List.getElem?_append_left (by rw [List.length_take, length_ls]; omega), List.getElem?_take, if_pos (by omega)]
  · rw [if_neg hj, if_neg hj]
theorem bwT_pad_high (s : ByteArray) (m : Nat) : bwT (padB s) (s.size / 64 + m) = bwT (lastB s) m := by
  unfold bwT
  congr 1
  apply ls_inj
  rw [ls_extract, ls_extract, padB, ls_bs, padL_split, lastB, ls_bs]
  apply List.ext_getElem?
  intro j
  simp only [List.getElem?_take, List.getElem?_drop]
  have hl : ((ls s).take (64 * (s.size / 64))).length = 64 * (s.size / 64) := by rw [List.length_take, length_ls]; omega
  by_cases hj : j < 64
  · rw [if_pos (by omega), if_pos (by omega), List.getElem?_append_right (by omega), hl]
    congr 1
    omega
  · rw [if_neg (by omega), if_neg (by omega)]
theorem fin_pad (s : ByteArray) : hs (bwT (padB s)) IV ((padB s).size / 64) = fin s := by
  have h1 : (padB s).size / 64 = s.size / 64 + (lastB s).size / 64 := by
    rw [padB, size_bs, length_padL]
    have := size_lastB s
    omega
  rw [h1, hs_add, fin, hs_congr (fun m => bwT (padB s) (s.size / 64 + m)) (bwT (lastB s)) _ _ (fun m _ => bwT_pad_high s m), hs_congr (bwT (padB s)) (bwT s) IV _ (fun m hm => bwT_pad_low s m hm)]
end Go.Proofs.YtkbfflnjbafamaaDoor
