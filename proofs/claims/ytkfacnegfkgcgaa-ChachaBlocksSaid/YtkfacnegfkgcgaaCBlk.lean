/-
  mailsacklaw05.ChachaBlocks: the walk.
-/
import Derived.Test.YtkfacnegfkgcgaaRBlk
namespace Go.Proofs.Ytkfacnegfkgcgaa
open Go.RowKit MS

set_option maxHeartbeats 400000 in
theorem blocks_any (k n : ByteArray) (c : W32) (w : World) :
    Calls Try.prog 4 #[.string k, .string n, .int .u32 (wv c)] w fun e w' => e = .returned (.bool true) ∧ Below w.heap.size w w' := by
  have A := Lib.hid awake05_any
  have N := Lib.hid (fun h w => block_no k n (wv c) h w)
  have Y := Lib.hid (fun w h1 h2 => block_yes k n c w h1 h2)
  have R := Lib.hid (fun w h1 h2 => rblock k n c w h1 h2)
  by_cases h0 : k.size > 100 ∨ n.size > 100
  · go_enter Try.func4, Try.ntmps4
    by_cases h1 : k.size > 100
    · have t1 : decide ((k.size : Int) > 100) = true := by simp; omega
      go_wp2_with fail
      refine (A.out _).mono ?_
      rintro e w1 ⟨rfl, hb1⟩
      go_wp2_with fail
      go_ret
      exact ⟨rfl, hb1⟩
    · go_wp2_with fail
      refine (A.out _).mono ?_
      rintro e w1 ⟨rfl, hb1⟩
      go_wp2_with fail
      go_ret
      exact ⟨rfl, hb1⟩
  · have l1 : ¬ k.size > 100 := by omega
    have l2 : ¬ n.size > 100 := by omega
    clear h0
    by_cases h : k.size ≠ 32 ∨ n.size ≠ 12
    · have H := Lib.hid h
      go_enter Try.func4, Try.ntmps4
      by_cases h1 : k.size = 32
      · have h2 : n.size ≠ 12 := by omega
        have t1 : ((k.size : Int) != 32) = false := by simp; omega
        have t2 : ((n.size : Int) != 12) = true := by simp; omega
        clear h h1 h2
        go_wp2_with fail
        refine (N.out H.out _).mono ?_
        rintro e w1 ⟨rfl, hb1⟩
        go_wp2_with fail
        refine (A.out _).mono ?_
        rintro e w2 ⟨rfl, hb2⟩
        go_wp2_with fail
        go_ret
        exact ⟨rfl, hb1.trans (hb2.mono hb1.size)⟩
      · have t1 : ((k.size : Int) != 32) = true := by simp; omega
        clear h h1
        go_wp2_with fail
        refine (N.out H.out _).mono ?_
        rintro e w1 ⟨rfl, hb1⟩
        go_wp2_with fail
        refine (A.out _).mono ?_
        rintro e w2 ⟨rfl, hb2⟩
        go_wp2_with fail
        go_ret
        exact ⟨rfl, hb1.trans (hb2.mono hb1.size)⟩
    · have h1 : k.size = 32 := by omega
      have h2 : n.size = 12 := by omega
      have H1 := Lib.hid h1
      have H2 := Lib.hid h2
      have t1 : ((k.size : Int) != 32) = false := by simp; omega
      have t2 : ((n.size : Int) != 12) = false := by simp; omega
      clear h h1 h2
      go_enter Try.func4, Try.ntmps4
      go_wp2_with fail
      refine (Y.out _ H1.out H2.out).mono ?_
      rintro e w1 ⟨rfl, hb1⟩
      go_wp2_with fail
      refine (R.out _ H1.out H2.out).mono ?_
      rintro e w2 ⟨rfl, hb2⟩
      go_wp2_with fail
      refine (A.out _).mono ?_
      rintro e w3 ⟨rfl, hb3⟩
      go_wp2_with fail
      go_ret
      exact ⟨rfl, (hb1.trans (hb2.mono hb1.size)).trans (hb3.mono (Nat.le_trans hb1.size hb2.size))⟩
end Go.Proofs.Ytkfacnegfkgcgaa
