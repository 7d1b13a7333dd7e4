/-
  Contracts of math/bits.RotateLeft32 at the turns of sha; of mailsackref01.right.
-/
import Derived.Test.YtkbfflnjbafamaaDoorUtil
namespace Go.Proofs.YtkbfflnjbafamaaDoor
open Go.RowKit MS
attribute [local go_sem] w_add w_xor w_or w_and w_sub

theorem w_rotc (x : W32) (n m : Nat) (h : n < 32) (hm : n + m = 32) (a b : Int) (ha : a = ((x.toNat * 2 ^ n % 2 ^ 32 : Nat) : Int)) (hb : b = ((x.toNat / 2 ^ m : Nat) : Int)) :
    bits .or .u32 b a = wv (x.rotateLeft n) := by
  subst ha; subst hb
  have h1 : x.toNat * 2 ^ n % 2 ^ 32 < 4294967296 := Nat.mod_lt _ (by decide)
  have h2 : x.toNat / 2 ^ m < 4294967296 := Nat.lt_of_le_of_lt (Nat.div_le_self _ _) x.isLt
  unfold wv
  rw [u32_or_nat _ _ h2 h1, Nat.or_comm, BitVec.rotateLeft_def, Nat.mod_eq_of_lt h, BitVec.toNat_or, BitVec.toNat_shiftLeft, BitVec.toNat_ushiftRight, Nat.shiftLeft_eq, Nat.shiftRight_eq_div_pow, show 32 - n = m by omega]
theorem w_shr (x : W32) (n : Nat) (a : Int) (ha : a = ((x.toNat / 2 ^ n : Nat) : Int)) : a = wv (x >>> n) := by
  subst ha
  unfold wv
  rw [BitVec.toNat_ushiftRight, Nat.shiftRight_eq_div_pow]

set_option maxHeartbeats 400000 in
theorem rotm7 (x : W32) (w : World) :
    Calls Tryd.prog 35 #[.int .u32 (wv x), .int .i64 (-7)] w fun e w' => e = .returned (.int .u32 (wv (x.rotateLeft 25))) ∧ w = w' := by
  have a1 : bits BinOp.and IntKind.u64 (IntKind.u64.wrap (-7)) 31 = 25 := by decide +kernel
  have a2 := w_rot x 25 7 (by decide) (by decide) (wv x * 33554432 % 4294967296) (wv x / 128) (by unfold wv; omega) (by unfold wv; omega)
  go_enter Tryd.func35, Tryd.ntmps35
  go_wp2
  go_ret
  exact ⟨rfl, rfl⟩

set_option maxHeartbeats 400000 in
theorem right7 (x : W32) (w : World) :
    Calls Tryd.prog 36 #[.int .u32 (wv x), .int .i64 7] w fun e w' => e = .returned (.int .u32 (wv (x.rotateLeft 25))) ∧ ∃ k, w' = w.drewN k := by
  have a2 := w_rotc x 25 7 (by decide) (by decide) (wv x * 33554432 % 4294967296) (wv x / 128) (by unfold wv; omega) (by unfold wv; omega)
  go_enter Tryd.func36, Tryd.ntmps36
  go_wp2
  go_quiet (fail)
  go_wp2
  go_ret
  exact ⟨rfl, _, rfl⟩

set_option maxHeartbeats 400000 in
theorem rotm18 (x : W32) (w : World) :
    Calls Tryd.prog 35 #[.int .u32 (wv x), .int .i64 (-18)] w fun e w' => e = .returned (.int .u32 (wv (x.rotateLeft 14))) ∧ w = w' := by
  have a1 : bits BinOp.and IntKind.u64 (IntKind.u64.wrap (-18)) 31 = 14 := by decide +kernel
  have a2 := w_rot x 14 18 (by decide) (by decide) (wv x * 16384 % 4294967296) (wv x / 262144) (by unfold wv; omega) (by unfold wv; omega)
  go_enter Tryd.func35, Tryd.ntmps35
  go_wp2
  go_ret
  exact ⟨rfl, rfl⟩

set_option maxHeartbeats 400000 in
theorem right18 (x : W32) (w : World) :
    Calls Tryd.prog 36 #[.int .u32 (wv x), .int .i64 18] w fun e w' => e = .returned (.int .u32 (wv (x.rotateLeft 14))) ∧ ∃ k, w' = w.drewN k := by
  have a2 := w_rotc x 14 18 (by decide) (by decide) (wv x * 16384 % 4294967296) (wv x / 262144) (by unfold wv; omega) (by unfold wv; omega)
  go_enter Tryd.func36, Tryd.ntmps36
  go_wp2
  go_quiet (fail)
  go_wp2
  go_ret
  exact ⟨rfl, _, rfl⟩

set_option maxHeartbeats 400000 in
theorem rotm17 (x : W32) (w : World) :
    Calls Tryd.prog 35 #[.int .u32 (wv x), .int .i64 (-17)] w fun e w' => e = .returned (.int .u32 (wv (x.rotateLeft 15))) ∧ w = w' := by
  have a1 : bits BinOp.and IntKind.u64 (IntKind.u64.wrap (-17)) 31 = 15 := by decide +kernel
  have a2 := w_rot x 15 17 (by decide) (by decide) (wv x * 32768 % 4294967296) (wv x / 131072) (by unfold wv; omega) (by unfold wv; omega)
  go_enter Tryd.func35, Tryd.ntmps35
  go_wp2
  go_ret
  exact ⟨rfl, rfl⟩

set_option maxHeartbeats 400000 in
theorem right17 (x : W32) (w : World) :
    Calls Tryd.prog 36 #[.int .u32 (wv x), .int .i64 17] w fun e w' => e = .returned (.int .u32 (wv (x.rotateLeft 15))) ∧ ∃ k, w' = w.drewN k := by
  have a2 := w_rotc x 15 17 (by decide) (by decide) (wv x * 32768 % 4294967296) (wv x / 131072) (by unfold wv; omega) (by unfold wv; omega)
  go_enter Tryd.func36, Tryd.ntmps36
  go_wp2
  go_quiet (fail)
  go_wp2
  go_ret
  exact ⟨rfl, _, rfl⟩

set_option maxHeartbeats 400000 in
theorem rotm19 (x : W32) (w : World) :
    Calls Tryd.prog 35 #[.int .u32 (wv x), .int .i64 (-19)] w fun e w' => e = .returned (.int .u32 (wv (x.rotateLeft 13))) ∧ w = w' := by
  have a1 : bits BinOp.and IntKind.u64 (IntKind.u64.wrap (-19)) 31 = 13 := by decide +kernel
  have a2 := w_rot x 13 19 (by decide) (by decide) (wv x * 8192 % 4294967296) (wv x / 524288) (by unfold wv; omega) (by unfold wv; omega)
  go_enter Tryd.func35, Tryd.ntmps35
  go_wp2
  go_ret
  exact ⟨rfl, rfl⟩

set_option maxHeartbeats 400000 in
theorem right19 (x : W32) (w : World) :
    Calls Tryd.prog 36 #[.int .u32 (wv x), .int .i64 19] w fun e w' => e = .returned (.int .u32 (wv (x.rotateLeft 13))) ∧ ∃ k, w' = w.drewN k := by
  have a2 := w_rotc x 13 19 (by decide) (by decide) (wv x * 8192 % 4294967296) (wv x / 524288) (by unfold wv; omega) (by unfold wv; omega)
  go_enter Tryd.func36, Tryd.ntmps36
  go_wp2
  go_quiet (fail)
  go_wp2
  go_ret
  exact ⟨rfl, _, rfl⟩

set_option maxHeartbeats 400000 in
theorem rotm6 (x : W32) (w : World) :
    Calls Tryd.prog 35 #[.int .u32 (wv x), .int .i64 (-6)] w fun e w' => e = .returned (.int .u32 (wv (x.rotateLeft 26))) ∧ w = w' := by
  have a1 : bits BinOp.and IntKind.u64 (IntKind.u64.wrap (-6)) 31 = 26 := by decide +kernel
  have a2 := w_rot x 26 6 (by decide) (by decide) (wv x * 67108864 % 4294967296) (wv x / 64) (by unfold wv; omega) (by unfold wv; omega)
  go_enter Tryd.func35, Tryd.ntmps35
  go_wp2
  go_ret
  exact ⟨rfl, rfl⟩

set_option maxHeartbeats 400000 in
theorem right6 (x : W32) (w : World) :
    Calls Tryd.prog 36 #[.int .u32 (wv x), .int .i64 6] w fun e w' => e = .returned (.int .u32 (wv (x.rotateLeft 26))) ∧ ∃ k, w' = w.drewN k := by
  have a2 := w_rotc x 26 6 (by decide) (by decide) (wv x * 67108864 % 4294967296) (wv x / 64) (by unfold wv; omega) (by unfold wv; omega)
  go_enter Tryd.func36, Tryd.ntmps36
  go_wp2
  go_quiet (fail)
  go_wp2
  go_ret
  exact ⟨rfl, _, rfl⟩

set_option maxHeartbeats 400000 in
theorem rotm11 (x : W32) (w : World) :
    Calls Tryd.prog 35 #[.int .u32 (wv x), .int .i64 (-11)] w fun e w' => e = .returned (.int .u32 (wv (x.rotateLeft 21))) ∧ w = w' := by
  have a1 : bits BinOp.and IntKind.u64 (IntKind.u64.wrap (-11)) 31 = 21 := by decide +kernel
  have a2 := w_rot x 21 11 (by decide) (by decide) (wv x * 2097152 % 4294967296) (wv x / 2048) (by unfold wv; omega) (by unfold wv; omega)
  go_enter Tryd.func35, Tryd.ntmps35
  go_wp2
  go_ret
  exact ⟨rfl, rfl⟩

set_option maxHeartbeats 400000 in
theorem right11 (x : W32) (w : World) :
    Calls Tryd.prog 36 #[.int .u32 (wv x), .int .i64 11] w fun e w' => e = .returned (.int .u32 (wv (x.rotateLeft 21))) ∧ ∃ k, w' = w.drewN k := by
  have a2 := w_rotc x 21 11 (by decide) (by decide) (wv x * 2097152 % 4294967296) (wv x / 2048) (by unfold wv; omega) (by unfold wv; omega)
  go_enter Tryd.func36, Tryd.ntmps36
  go_wp2
  go_quiet (fail)
  go_wp2
  go_ret
  exact ⟨rfl, _, rfl⟩

set_option maxHeartbeats 400000 in
theorem rotm25 (x : W32) (w : World) :
    Calls Tryd.prog 35 #[.int .u32 (wv x), .int .i64 (-25)] w fun e w' => e = .returned (.int .u32 (wv (x.rotateLeft 7))) ∧ w = w' := by
  have a1 : bits BinOp.and IntKind.u64 (IntKind.u64.wrap (-25)) 31 = 7 := by decide +kernel
  have a2 := w_rot x 7 25 (by decide) (by decide) (wv x * 128 % 4294967296) (wv x / 33554432) (by unfold wv; omega) (by unfold wv; omega)
  go_enter Tryd.func35, Tryd.ntmps35
  go_wp2
  go_ret
  exact ⟨rfl, rfl⟩

set_option maxHeartbeats 400000 in
theorem right25 (x : W32) (w : World) :
    Calls Tryd.prog 36 #[.int .u32 (wv x), .int .i64 25] w fun e w' => e = .returned (.int .u32 (wv (x.rotateLeft 7))) ∧ ∃ k, w' = w.drewN k := by
  have a2 := w_rotc x 7 25 (by decide) (by decide) (wv x * 128 % 4294967296) (wv x / 33554432) (by unfold wv; omega) (by unfold wv; omega)
  go_enter Tryd.func36, Tryd.ntmps36
  go_wp2
  go_quiet (fail)
  go_wp2
  go_ret
  exact ⟨rfl, _, rfl⟩

set_option maxHeartbeats 400000 in
theorem rotm2 (x : W32) (w : World) :
    Calls Tryd.prog 35 #[.int .u32 (wv x), .int .i64 (-2)] w fun e w' => e = .returned (.int .u32 (wv (x.rotateLeft 30))) ∧ w = w' := by
  have a1 : bits BinOp.and IntKind.u64 (IntKind.u64.wrap (-2)) 31 = 30 := by decide +kernel
  have a2 := w_rot x 30 2 (by decide) (by decide) (wv x * 1073741824 % 4294967296) (wv x / 4) (by unfold wv; omega) (by unfold wv; omega)
  go_enter Tryd.func35, Tryd.ntmps35
  go_wp2
  go_ret
  exact ⟨rfl, rfl⟩

set_option maxHeartbeats 400000 in
theorem right2 (x : W32) (w : World) :
    Calls Tryd.prog 36 #[.int .u32 (wv x), .int .i64 2] w fun e w' => e = .returned (.int .u32 (wv (x.rotateLeft 30))) ∧ ∃ k, w' = w.drewN k := by
  have a2 := w_rotc x 30 2 (by decide) (by decide) (wv x * 1073741824 % 4294967296) (wv x / 4) (by unfold wv; omega) (by unfold wv; omega)
  go_enter Tryd.func36, Tryd.ntmps36
  go_wp2
  go_quiet (fail)
  go_wp2
  go_ret
  exact ⟨rfl, _, rfl⟩

set_option maxHeartbeats 400000 in
theorem rotm13 (x : W32) (w : World) :
    Calls Tryd.prog 35 #[.int .u32 (wv x), .int .i64 (-13)] w fun e w' => e = .returned (.int .u32 (wv (x.rotateLeft 19))) ∧ w = w' := by
  have a1 : bits BinOp.and IntKind.u64 (IntKind.u64.wrap (-13)) 31 = 19 := by decide +kernel
  have a2 := w_rot x 19 13 (by decide) (by decide) (wv x * 524288 % 4294967296) (wv x / 8192) (by unfold wv; omega) (by unfold wv; omega)
  go_enter Tryd.func35, Tryd.ntmps35
  go_wp2
  go_ret
  exact ⟨rfl, rfl⟩

set_option maxHeartbeats 400000 in
theorem right13 (x : W32) (w : World) :
    Calls Tryd.prog 36 #[.int .u32 (wv x), .int .i64 13] w fun e w' => e = .returned (.int .u32 (wv (x.rotateLeft 19))) ∧ ∃ k, w' = w.drewN k := by
  have a2 := w_rotc x 19 13 (by decide) (by decide) (wv x * 524288 % 4294967296) (wv x / 8192) (by unfold wv; omega) (by unfold wv; omega)
  go_enter Tryd.func36, Tryd.ntmps36
  go_wp2
  go_quiet (fail)
  go_wp2
  go_ret
  exact ⟨rfl, _, rfl⟩

set_option maxHeartbeats 400000 in
theorem rotm22 (x : W32) (w : World) :
    Calls Tryd.prog 35 #[.int .u32 (wv x), .int .i64 (-22)] w fun e w' => e = .returned (.int .u32 (wv (x.rotateLeft 10))) ∧ w = w' := by
  have a1 : bits BinOp.and IntKind.u64 (IntKind.u64.wrap (-22)) 31 = 10 := by decide +kernel
  have a2 := w_rot x 10 22 (by decide) (by decide) (wv x * 1024 % 4294967296) (wv x / 4194304) (by unfold wv; omega) (by unfold wv; omega)
  go_enter Tryd.func35, Tryd.ntmps35
  go_wp2
  go_ret
  exact ⟨rfl, rfl⟩

set_option maxHeartbeats 400000 in
theorem right22 (x : W32) (w : World) :
    Calls Tryd.prog 36 #[.int .u32 (wv x), .int .i64 22] w fun e w' => e = .returned (.int .u32 (wv (x.rotateLeft 10))) ∧ ∃ k, w' = w.drewN k := by
  have a2 := w_rotc x 10 22 (by decide) (by decide) (wv x * 1024 % 4294967296) (wv x / 4194304) (by unfold wv; omega) (by unfold wv; omega)
  go_enter Tryd.func36, Tryd.ntmps36
  go_wp2
  go_quiet (fail)
  go_wp2
  go_ret
  exact ⟨rfl, _, rfl⟩
end Go.Proofs.YtkbfflnjbafamaaDoor
