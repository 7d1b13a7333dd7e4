/-
  Contracts of chacha: the quarter round.
-/
import Derived.Test.YtkfacnegfkgcgaaProg
import Derived.Test.YtkfacnegfkgcgaaWord
namespace Go.Proofs.Ytkfacnegfkgcgaa
open Go.RowKit MS
attribute [local go_sem] w_add w_xor w_or w_and w_sub

set_option maxHeartbeats 400000 in
theorem rot16 (x : W32) (w : World) :
    Calls Try.prog 33 #[.int .u32 (wv x), .int .i64 16] w fun e w' => e = .returned (.int .u32 (wv (x.rotateLeft 16))) ∧ w = w' := by
  have a1 : bits BinOp.and IntKind.u64 16 31 = 16 := by decide +kernel
  have a2 := w_rot x 16 16 (by decide) (by decide) (wv x * 65536 % 4294967296) (wv x / 65536) (by unfold wv; omega) (by unfold wv; omega)
  go_enter Try.func33, Try.ntmps33
  go_wp2
  go_ret
  exact ⟨rfl, rfl⟩

set_option maxHeartbeats 400000 in
theorem rot12 (x : W32) (w : World) :
    Calls Try.prog 33 #[.int .u32 (wv x), .int .i64 12] w fun e w' => e = .returned (.int .u32 (wv (x.rotateLeft 12))) ∧ w = w' := by
  have a1 : bits BinOp.and IntKind.u64 12 31 = 12 := by decide +kernel
  have a2 := w_rot x 12 20 (by decide) (by decide) (wv x * 4096 % 4294967296) (wv x / 1048576) (by unfold wv; omega) (by unfold wv; omega)
  go_enter Try.func33, Try.ntmps33
  go_wp2
  go_ret
  exact ⟨rfl, rfl⟩

set_option maxHeartbeats 400000 in
theorem rot8 (x : W32) (w : World) :
    Calls Try.prog 33 #[.int .u32 (wv x), .int .i64 8] w fun e w' => e = .returned (.int .u32 (wv (x.rotateLeft 8))) ∧ w = w' := by
  have a1 : bits BinOp.and IntKind.u64 8 31 = 8 := by decide +kernel
  have a2 := w_rot x 8 24 (by decide) (by decide) (wv x * 256 % 4294967296) (wv x / 16777216) (by unfold wv; omega) (by unfold wv; omega)
  go_enter Try.func33, Try.ntmps33
  go_wp2
  go_ret
  exact ⟨rfl, rfl⟩

set_option maxHeartbeats 400000 in
theorem rot7 (x : W32) (w : World) :
    Calls Try.prog 33 #[.int .u32 (wv x), .int .i64 7] w fun e w' => e = .returned (.int .u32 (wv (x.rotateLeft 7))) ∧ w = w' := by
  have a1 : bits BinOp.and IntKind.u64 7 31 = 7 := by decide +kernel
  have a2 := w_rot x 7 25 (by decide) (by decide) (wv x * 128 % 4294967296) (wv x / 33554432) (by unfold wv; omega) (by unfold wv; omega)
  go_enter Try.func33, Try.ntmps33
  go_wp2
  go_ret
  exact ⟨rfl, rfl⟩

/-- The quarter round. -/
def qa (a b c d : W32) : W32 := let a := a + b; let d := (d ^^^ a).rotateLeft 16; let c := c + d; let b := (b ^^^ c).rotateLeft 12; a + b
def qd (a b c d : W32) : W32 := let a1 := a + b; let d1 := (d ^^^ a1).rotateLeft 16; (d1 ^^^ qa a b c d).rotateLeft 8
def qc (a b c d : W32) : W32 := let a1 := a + b; let d1 := (d ^^^ a1).rotateLeft 16; (c + d1) + qd a b c d
def qb (a b c d : W32) : W32 := let a1 := a + b; let d1 := (d ^^^ a1).rotateLeft 16; let c1 := c + d1; (((b ^^^ c1).rotateLeft 12) ^^^ qc a b c d).rotateLeft 7

set_option maxHeartbeats 400000 in
theorem quarter_any (a b c d : W32) (w : World) :
    Calls Try.prog 18 #[.int .u32 (wv a), .int .u32 (wv b), .int .u32 (wv c), .int .u32 (wv d)] w fun e w' =>
      e = .returned (.tuple #[.int .u32 (wv (qa a b c d)), .int .u32 (wv (qb a b c d)), .int .u32 (wv (qc a b c d)), .int .u32 (wv (qd a b c d))]) ∧ w = w' := by
  go_enter Try.func18, Try.ntmps18
  go_wp2_with fail
  refine (rot16 _ _).mono ?_
  rintro e w' ⟨rfl, rfl⟩
  go_wp2_with fail
  refine (rot12 _ _).mono ?_
  rintro e w' ⟨rfl, rfl⟩
  go_wp2_with fail
  refine (rot8 _ _).mono ?_
  rintro e w' ⟨rfl, rfl⟩
  go_wp2_with fail
  refine (rot7 _ _).mono ?_
  rintro e w' ⟨rfl, rfl⟩
  go_wp2_with fail
  refine bodyPost_ret (v := .tuple #[.int .u32 (wv (qa a b c d)), .int .u32 (wv (qb a b c d)), .int .u32 (wv (qc a b c d)), .int .u32 (wv (qd a b c d))]) ?_ rfl ⟨rfl, rfl⟩
  simp [results, Try.results18, go_sem, qa, qb, qc, qd]
end Go.Proofs.Ytkfacnegfkgcgaa
