/-
  mailsacklaw05.ChachaBack: the walk.
-/
import Derived.Test.YtkfacnegfkgcgaaChaC
namespace Go.Proofs.Ytkfacnegfkgcgaa
open Go.RowKit MS
attribute [local go_sem] w_add w_xor w_or w_and w_sub w_r7 w_r8 w_r12 w_r16

set_option maxRecDepth 100000 in
set_option maxHeartbeats 400000 in
theorem back_core (a b c d x y z v x1 y1 z1 v1 : W32) (hx : qa a b c d = x) (hy : qb a b c d = y) (hz : qc a b c d = z) (hv : qd a b c d = v)
    (e1 : rotr y 7 25 ^^^ z = y1) (e2 : z - v = z1) (e3 : rotr v 8 24 ^^^ x = v1) (e4 : x - y1 = x1) (e5 : rotr y1 12 20 ^^^ z1 = b) (e6 : z1 - v1 = c) (e7 : rotr v1 16 16 ^^^ x1 = d) (e8 : x1 - b = a) (w : World) :
    Calls Try.prog 5 #[.int .u32 (wv a), .int .u32 (wv b), .int .u32 (wv c), .int .u32 (wv d)] w fun e w' => e = .returned (.bool true) ∧ Below w.heap.size w w' := by
  have h := quarter_any a b c d
  rw [hx, hy, hz, hv] at h
  have H := Lib.hid h
  clear h hx hy hz hv
  go_enter Try.func5, Try.ntmps5
  go_wp2_with fail
  refine (H.out _).mono ?_
  rintro e w1 ⟨rfl, rfl⟩
  go_wp2_with fail
  refine (awake05_any _).mono ?_
  rintro e w2 ⟨rfl, hb⟩
  go_wp2_with fail
  go_ret
  exact ⟨rfl, hb⟩

theorem back_any (a b c d : W32) (w : World) :
    Calls Try.prog 5 #[.int .u32 (wv a), .int .u32 (wv b), .int .u32 (wv c), .int .u32 (wv d)] w fun e w' => e = .returned (.bool true) ∧ Below w.heap.size w w' := by
  have k1 : ∀ p q : W32, p + q - q = p := fun p q => BitVec.add_sub_cancel p q
  have k2 : ∀ p q : W32, p ^^^ q ^^^ q = p := fun p q => by rw [BitVec.xor_assoc, BitVec.xor_self, BitVec.xor_zero]
  refine back_core a b c d _ _ _ _ (a + b) ((b ^^^ (c + (d ^^^ (a + b)).rotateLeft 16)).rotateLeft 12) (c + (d ^^^ (a + b)).rotateLeft 16) ((d ^^^ (a + b)).rotateLeft 16) rfl rfl rfl rfl ?_ ?_ ?_ ?_ ?_ ?_ ?_ ?_ w
  · unfold qb; rw [rotr_rotl _ 7 25 (by decide) (by decide) (.inl rfl), k2]
  · unfold qc; exact k1 _ _
  · unfold qd; rw [rotr_rotl _ 8 24 (by decide) (by decide) (.inr (.inl rfl)), k2]
  · unfold qa; exact k1 _ _
  · rw [rotr_rotl _ 12 20 (by decide) (by decide) (.inr (.inr (.inl rfl))), k2]
  · exact k1 _ _
  · rw [rotr_rotl _ 16 16 (by decide) (by decide) (.inr (.inr (.inr rfl))), k2]
  · exact k1 _ _
end Go.Proofs.Ytkfacnegfkgcgaa
