/-
  What the tag is at some keys: plain facts. No program stands in them.
-/
import Derived.Test.YtkfacnegfkgcgaaPolQ
namespace MS
theorem clampN_zero : clampN 0 = 0 := by decide +kernel
theorem clampN_one : clampN 1 = 1 := by decide +kernel
theorem hP_zero (l : List UInt8) (k : Nat) : hP 0 l k = 0 := by
  cases k with
  | zero => rfl
  | succ k => rw [hP, stepP, Nat.mul_zero, Nat.zero_mod]
theorem half_lt (key : ByteArray) (h : key.size = 32) : leb ((ls key).drop 16) < 256 ^ 16 := by
  have := leb_lt ((ls key).drop 16)
  rwa [List.length_drop, length_ls, h] at this
theorem nbs_half (key : ByteArray) (h : key.size = 32) : bs (nbs 16 (leb ((ls key).drop 16))) = key.extract 16 32 := by
  have hl : ((ls key).drop 16).length = 16 := by rw [List.length_drop, length_ls, h]
  have := nbs_leb ((ls key).drop 16)
  rw [hl] at this
  rw [this]
  apply ls_inj
  rw [ls_bs, ls_extract, List.take_of_length_le (by rw [hl]; decide)]
/-- Of no bytes the tag is the key's second half. -/
theorem tag_none (key : ByteArray) (h : key.size = 32) : tagB key ByteArray.empty = key.extract 16 32 := by
  rw [tagB, show (ByteArray.empty.size + 15) / 16 = 0 from rfl, hP, Nat.zero_add, nbs_half key h]
/-- By a first half of noughts it is that, whatever the bytes are. -/
theorem tag_zero (key key' s : ByteArray) (h : key.size = 32) (hk : ls key' = List.replicate 16 0 ++ (ls key).drop 16) : tagB key' s = key.extract 16 32 := by
  have e1 : (ls key').take 16 = List.replicate 16 0 := by rw [hk, List.take_left' (by simp)]
  have e2 : (ls key').drop 16 = (ls key).drop 16 := by rw [hk, List.drop_left' (by simp)]
  rw [tagB, e1, e2, leb_zeros, clampN_zero, hP_zero, Nat.zero_add, nbs_half key h]
/-- What is summed ahead of the second half. -/
def tagH (key s : ByteArray) : Nat := hP (clampN (leb ((ls key).take 16))) (ls s) ((s.size + 15) / 16)
theorem tag_sum (key s : ByteArray) : tagB key s = bs (nbs 16 (tagH key s + leb ((ls key).drop 16))) := rfl
theorem tag_first (key key' s : ByteArray) (h : key.size = 32) (hk : ls key' = (ls key).take 16 ++ List.replicate 16 0) : tagB key' s = bs (nbs 16 (tagH key s)) := by
  have hl : ((ls key).take 16).length = 16 := by rw [List.length_take, length_ls, h]; rfl
  have e1 : (ls key').take 16 = (ls key).take 16 := by rw [hk, List.take_left' hl]
  have e2 : (ls key').drop 16 = List.replicate 16 0 := by rw [hk, List.drop_left' hl]
  rw [tagB, e1, e2, leb_zeros, Nat.add_zero]
  rfl
/-- By a key of 1 and noughts. -/
theorem tag_small (key s : ByteArray) (hk : ls key = 1 :: List.replicate 31 0) (h0 : 0 < s.size) (h15 : s.size ≤ 15) : tagB key s = bs (ls s ++ 1 :: List.replicate (15 - s.size) 0) := by
  have hl := length_ls s
  have e1 : (ls key).take 16 = 1 :: List.replicate 15 0 := by rw [hk]; rfl
  have e2 : (ls key).drop 16 = List.replicate 16 0 := by rw [hk]; rfl
  have e3 : leb (1 :: List.replicate 15 0) = 1 := by rw [leb, leb_zeros]; rfl
  have e4 : (s.size + 15) / 16 = 1 := by omega
  have e5 : blkP (ls s) 0 = ls s := by rw [blkP, Nat.mul_zero, List.drop_zero, List.take_of_length_le (by omega)]
  have e6 : leb (ls s ++ 1 :: List.replicate (15 - s.size) 0) = leb (ls s) + 256 ^ s.size := by
    rw [leb_app, leb, leb_zeros, hl]
    show leb (ls s) + 256 ^ s.size * 1 = _
    rw [Nat.mul_one]
  have b1 := leb_lt (ls s)
  rw [hl] at b1
  have b2 : 256 ^ s.size ≤ 256 ^ 15 := Nat.pow_le_pow_right (by decide) h15
  rw [show (256 : Nat) ^ 15 = 1329227995784915872903807060280344576 by decide] at b2
  rw [tagB, e1, e2, e3, leb_zeros, clampN_one, e4, hP, hP, stepP, e5, hl, Nat.zero_add, Nat.mul_one, Nat.add_zero, Nat.mod_eq_of_lt (by unfold P130; omega), ← e6]
  congr 1
  have := nbs_leb (ls s ++ 1 :: List.replicate (15 - s.size) 0)
  rwa [List.length_append, List.length_cons, List.length_replicate, hl, show s.size + (15 - s.size + 1) = 16 by omega] at this
end MS
