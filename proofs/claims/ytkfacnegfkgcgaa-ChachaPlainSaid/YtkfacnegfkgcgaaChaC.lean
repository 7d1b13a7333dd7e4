/-
  mailsacklaw05.ChachaBack and ChachaQuarters: the walks.
-/
import Derived.Test.YtkfacnegfkgcgaaChaB
namespace Go.Proofs.Ytkfacnegfkgcgaa
open Go.RowKit MS
attribute [local go_sem] w_add w_xor w_or w_and w_sub

set_option maxRecDepth 100000 in
theorem rotr_rotl (x : W32) (n m : Nat) (hn : 0 < n) (hm : n + m = 32) (k : n = 7 ∨ n = 8 ∨ n = 12 ∨ n = 16) : rotr (x.rotateLeft n) n m = x := by
  apply BitVec.eq_of_toNat_eq
  unfold rotr
  have h0 := x.isLt
  have e : (x.rotateLeft n).toNat = x.toNat * 2 ^ n % 2 ^ 32 + x.toNat / 2 ^ m := by
    obtain ⟨h0, h1, h2⟩ := rotr_lt x.toNat m n (by omega) x.isLt
    rw [BitVec.rotateLeft_def, Nat.mod_eq_of_lt (by omega), BitVec.toNat_or, BitVec.toNat_shiftLeft, BitVec.toNat_ushiftRight, Nat.shiftLeft_eq, Nat.shiftRight_eq_div_pow, show 32 - n = m by omega]
    exact nat_join n _ _ h2 h1
  rw [e, BitVec.toNat_ofNat]
  have hx : x.toNat < 4294967296 := x.isLt
  generalize x.toNat = X at *
  clear h0 e x
  rcases k with rfl | rfl | rfl | rfl
  · obtain rfl : 25 = m := by omega
    show (((X * 128 % 4294967296 + X / 33554432) / 128 + (X * 128 % 4294967296 + X / 33554432) * 33554432 % 4294967296) % 4294967296) = X
    have q1 : X * 128 % 4294967296 = (X % 33554432) * 128 := by omega
    have q2 : X / 33554432 < 128 := by omega
    have q3 : X = (X / 33554432) * 33554432 + X % 33554432 := by omega
    have q4 : X % 33554432 < 33554432 := by omega
    rw [q1]
    generalize X / 33554432 = q at *
    generalize X % 33554432 = r at *
    have q5 : (r * 128 + q) / 128 = r := by rw [Nat.add_comm, Nat.add_mul_div_right _ _ (by decide), Nat.div_eq_of_lt q2, Nat.zero_add]
    have q6 : (r * 128 + q) * 33554432 % 4294967296 = q * 33554432 := by
      rw [show (r * 128 + q) * 33554432 = q * 33554432 + r * 4294967296 by omega, Nat.add_mul_mod_self_right, Nat.mod_eq_of_lt (by omega)]
    rw [q5, q6]; omega
  · obtain rfl : 24 = m := by omega
    show (((X * 256 % 4294967296 + X / 16777216) / 256 + (X * 256 % 4294967296 + X / 16777216) * 16777216 % 4294967296) % 4294967296) = X
    have q1 : X * 256 % 4294967296 = (X % 16777216) * 256 := by omega
    have q2 : X / 16777216 < 256 := by omega
    have q3 : X = (X / 16777216) * 16777216 + X % 16777216 := by omega
    have q4 : X % 16777216 < 16777216 := by omega
    rw [q1]
    generalize X / 16777216 = q at *
    generalize X % 16777216 = r at *
    have q5 : (r * 256 + q) / 256 = r := by rw [Nat.add_comm, Nat.add_mul_div_right _ _ (by decide), Nat.div_eq_of_lt q2, Nat.zero_add]
    have q6 : (r * 256 + q) * 16777216 % 4294967296 = q * 16777216 := by
      rw [show (r * 256 + q) * 16777216 = q * 16777216 + r * 4294967296 by omega, Nat.add_mul_mod_self_right, Nat.mod_eq_of_lt (by omega)]
    rw [q5, q6]; omega
  · obtain rfl : 20 = m := by omega
    show (((X * 4096 % 4294967296 + X / 1048576) / 4096 + (X * 4096 % 4294967296 + X / 1048576) * 1048576 % 4294967296) % 4294967296) = X
    have q1 : X * 4096 % 4294967296 = (X % 1048576) * 4096 := by omega
    have q2 : X / 1048576 < 4096 := by omega
    have q3 : X = (X / 1048576) * 1048576 + X % 1048576 := by omega
    have q4 : X % 1048576 < 1048576 := by omega
    rw [q1]
    generalize X / 1048576 = q at *
    generalize X % 1048576 = r at *
    have q5 : (r * 4096 + q) / 4096 = r := by rw [Nat.add_comm, Nat.add_mul_div_right _ _ (by decide), Nat.div_eq_of_lt q2, Nat.zero_add]
    have q6 : (r * 4096 + q) * 1048576 % 4294967296 = q * 1048576 := by
      rw [show (r * 4096 + q) * 1048576 = q * 1048576 + r * 4294967296 by omega, Nat.add_mul_mod_self_right, Nat.mod_eq_of_lt (by omega)]
    rw [q5, q6]; omega
  · obtain rfl : 16 = m := by omega
    show (((X * 65536 % 4294967296 + X / 65536) / 65536 + (X * 65536 % 4294967296 + X / 65536) * 65536 % 4294967296) % 4294967296) = X
    have q1 : X * 65536 % 4294967296 = (X % 65536) * 65536 := by omega
    have q2 : X / 65536 < 65536 := by omega
    have q3 : X = (X / 65536) * 65536 + X % 65536 := by omega
    have q4 : X % 65536 < 65536 := by omega
    rw [q1]
    generalize X / 65536 = q at *
    generalize X % 65536 = r at *
    have q5 : (r * 65536 + q) / 65536 = r := by rw [Nat.add_comm, Nat.add_mul_div_right _ _ (by decide), Nat.div_eq_of_lt q2, Nat.zero_add]
    have q6 : (r * 65536 + q) * 65536 % 4294967296 = q * 65536 := by
      rw [show (r * 65536 + q) * 65536 = q * 65536 + r * 4294967296 by omega, Nat.add_mul_mod_self_right, Nat.mod_eq_of_lt (by omega)]
    rw [q5, q6]; omega

end Go.Proofs.Ytkfacnegfkgcgaa
