/-
  Contracts of chacha: what is refused; the fixed answer of the stage.
-/
import Derived.Test.YtkfacnegfkgcgaaChaA
namespace Go.Proofs.Ytkfacnegfkgcgaa
open Go.RowKit MS
attribute [local go_sem] w_add w_xor w_or w_and w_sub

set_option maxHeartbeats 400000 in
theorem begin_no (key nonce : ByteArray) (c : Int) (h : key.size ≠ 32 ∨ nonce.size ≠ 12) (w : World) :
    Calls Try.prog 35 #[.string key, .string nonce, .int .u32 c] w fun e w' => e = .returned (.tuple #[.agg #[.int .u32 0, .int .u32 0, .int .u32 0, .int .u32 0, .int .u32 0, .int .u32 0, .int .u32 0, .int .u32 0, .int .u32 0, .int .u32 0, .int .u32 0, .int .u32 0, .int .u32 0, .int .u32 0, .int .u32 0, .int .u32 0], .bool false]) ∧ Below w.heap.size w w' := by
  by_cases h1 : key.size = 32
  · have h2 : nonce.size ≠ 12 := by omega
    have t1 : ((key.size : Int) != 32) = false := by simp; omega
    have t2 : ((nonce.size : Int) != 12) = true := by simp; omega
    have H1 := Lib.hid h1
    clear h h1 h2
    go_enter Try.func35, Try.ntmps35
    go_wp2_with fail
    refine bodyPost_ret (v := .tuple #[.agg #[.int .u32 0, .int .u32 0, .int .u32 0, .int .u32 0, .int .u32 0, .int .u32 0, .int .u32 0, .int .u32 0, .int .u32 0, .int .u32 0, .int .u32 0, .int .u32 0, .int .u32 0, .int .u32 0, .int .u32 0, .int .u32 0], .bool false]) (by simp [results, Try.results35, go_sem]) rfl ⟨rfl, ?_⟩
    repeat (first | (with_reducible exact Below.refl _ _) | (with_reducible refine below_setCell ?_ (by simp) _) | (with_reducible apply below_alloc))
  · have t1 : ((key.size : Int) != 32) = true := by simp; omega
    clear h h1
    go_enter Try.func35, Try.ntmps35
    go_wp2_with fail
    refine bodyPost_ret (v := .tuple #[.agg #[.int .u32 0, .int .u32 0, .int .u32 0, .int .u32 0, .int .u32 0, .int .u32 0, .int .u32 0, .int .u32 0, .int .u32 0, .int .u32 0, .int .u32 0, .int .u32 0, .int .u32 0, .int .u32 0, .int .u32 0, .int .u32 0], .bool false]) (by simp [results, Try.results35, go_sem]) rfl ⟨rfl, ?_⟩
    repeat (first | (with_reducible exact Below.refl _ _) | (with_reducible refine below_setCell ?_ (by simp) _) | (with_reducible apply below_alloc))

set_option maxHeartbeats 400000 in
theorem block_no (key nonce : ByteArray) (c : Int) (h : key.size ≠ 32 ∨ nonce.size ≠ 12) (w : World) :
    Calls Try.prog 21 #[.string key, .string nonce, .int .u32 c] w fun e w' => e = .returned (.tuple #[.string ⟨#[]⟩, .bool false]) ∧ Below w.heap.size w w' := by
  have H := Lib.hid (begin_no key nonce c h)
  clear h
  go_enter Try.func21, Try.ntmps21
  go_wp2_with fail
  refine (H.out _).mono ?_
  rintro e w1 ⟨rfl, hb1⟩
  go_wp2_with fail
  go_ret2
  refine ⟨rfl, ?_⟩
  repeat (first | (with_reducible exact Below.refl _ _) | (with_reducible refine below_setCell ?_ (by simp) _) | (with_reducible apply below_alloc) | (with_reducible refine below_chain ?_ hb1))

set_option maxHeartbeats 400000 in
theorem awake05_any (w : World) :
    Calls Try.prog 20 #[] w fun e w' => e = .returned (.bool true) ∧ Below w.heap.size w w' := by
  have hq := quarter_any 0x11111111#32 0x01020304#32 0x9b8d6f43#32 0x01234567#32
  rw [show wv (0x11111111#32) = 286331153 from rfl, show wv (0x01020304#32) = 16909060 from rfl, show wv (0x9b8d6f43#32) = 2609737539 from rfl, show wv (0x01234567#32) = 19088743 from rfl,
    show wv (qa 0x11111111#32 0x01020304#32 0x9b8d6f43#32 0x01234567#32) = 3928658676 from by decide +kernel, show wv (qb 0x11111111#32 0x01020304#32 0x9b8d6f43#32 0x01234567#32) = 3407673550 from by decide +kernel,
    show wv (qc 0x11111111#32 0x01020304#32 0x9b8d6f43#32 0x01234567#32) = 1166100270 from by decide +kernel, show wv (qd 0x11111111#32 0x01020304#32 0x9b8d6f43#32 0x01234567#32) = 1484899515 from by decide +kernel] at hq
  have H := Lib.hid hq
  have B := Lib.hid (block_no (bs [115, 104, 111, 114, 116]) (bs []) 0 (.inl (by decide)))
  clear hq
  go_enter Try.func20, Try.ntmps20
  go_wp2_with fail
  refine (H.out _).mono ?_
  rintro e w1 ⟨rfl, rfl⟩
  go_wp2_with fail
  refine (B.out _).mono ?_
  rintro e w2 ⟨rfl, hb2⟩
  go_wp2_with fail
  go_ret
  exact ⟨rfl, hb2⟩

end Go.Proofs.Ytkfacnegfkgcgaa
