/-
  Contracts of mailsackref05: turned to the left; the quarter round in a slice.
-/
import Derived.Test.YtkfacnegfkgcgaaChaC
import Derived.Test.YtkfacnegfkgcgaaQTail
namespace Go.Proofs.Ytkfacnegfkgcgaa
open Go.RowKit MS
attribute [local go_sem] w_add w_xor w_or w_and w_sub

set_option maxHeartbeats 400000 in
theorem left16 (x : W32) (w : World) :
    Calls Try.prog 51 #[.int .u32 (wv x), .int .i64 16] w fun e w' => e = .returned (.int .u32 (wv (x.rotateLeft 16))) ∧ ∃ k, w' = w.drewN k := by
  have a2 := w_rot x 16 16 (by decide) (by decide) (wv x * 65536 % 4294967296) (wv x / 65536) (by unfold wv; omega) (by unfold wv; omega)
  go_enter Try.func51, Try.ntmps51
  go_wp2
  go_quiet (fail)
  go_wp2
  go_ret
  exact ⟨rfl, _, rfl⟩

set_option maxHeartbeats 400000 in
theorem left8 (x : W32) (w : World) :
    Calls Try.prog 51 #[.int .u32 (wv x), .int .i64 8] w fun e w' => e = .returned (.int .u32 (wv (x.rotateLeft 8))) ∧ ∃ k, w' = w.drewN k := by
  have a2 := w_rot x 8 24 (by decide) (by decide) (wv x * 256 % 4294967296) (wv x / 16777216) (by unfold wv; omega) (by unfold wv; omega)
  go_enter Try.func51, Try.ntmps51
  go_wp2
  go_quiet (fail)
  go_wp2
  go_ret
  exact ⟨rfl, _, rfl⟩

set_option maxHeartbeats 400000 in
theorem left12 (x : W32) (w : World) :
    Calls Try.prog 51 #[.int .u32 (wv x), .int .i64 12] w fun e w' => e = .returned (.int .u32 (wv (x.rotateLeft 12))) ∧ ∃ k, w' = w.drewN k := by
  have a2 := w_rot x 12 20 (by decide) (by decide) (wv x * 4096 % 4294967296) (wv x / 1048576) (by unfold wv; omega) (by unfold wv; omega)
  go_enter Try.func51, Try.ntmps51
  go_wp2
  go_quiet (fail)
  go_wp2
  go_ret
  exact ⟨rfl, _, rfl⟩

set_option maxHeartbeats 400000 in
theorem left7 (x : W32) (w : World) :
    Calls Try.prog 51 #[.int .u32 (wv x), .int .i64 7] w fun e w' => e = .returned (.int .u32 (wv (x.rotateLeft 7))) ∧ ∃ k, w' = w.drewN k := by
  have a2 := w_rot x 7 25 (by decide) (by decide) (wv x * 128 % 4294967296) (wv x / 33554432) (by unfold wv; omega) (by unfold wv; omega)
  go_enter Try.func51, Try.ntmps51
  go_wp2
  go_quiet (fail)
  go_wp2
  go_ret
  exact ⟨rfl, _, rfl⟩

end Go.Proofs.Ytkfacnegfkgcgaa
