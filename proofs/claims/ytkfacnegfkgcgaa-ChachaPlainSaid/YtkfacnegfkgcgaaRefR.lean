/-
  Contract of mailsackref05.Quarter; mailsacklaw05.ChachaQuarters: the walk.
-/
import Derived.Test.YtkfacnegfkgcgaaRefQ
namespace Go.Proofs.Ytkfacnegfkgcgaa
open Go.RowKit MS

theorem below_of_grown {w w' : World} {o : Obj} (h : (w.alloc o).grownBy w' (some w.heap.size)) : Below w.heap.size w w' := by
  have hz : (w.alloc o).heap.size = w.heap.size + 1 := World.size_alloc w o
  refine ⟨h.os, h.tape, h.output, by have := h.size; omega, fun k hk => ?_⟩
  rw [h.block k (by omega) (by intro e; cases e; omega), Below.heap_alloc w o k hk]

set_option maxHeartbeats 400000 in
theorem rquarter_any (a b c d : W32) (w : World) :
    Calls Try.prog 19 #[.int .u32 (wv a), .int .u32 (wv b), .int .u32 (wv c), .int .u32 (wv d)] w fun e w' =>
      e = .returned (.slice (some ⟨w.heap.size, 0, none⟩) 4 4) ∧ Below w.heap.size w w' ∧ w'.heap[w.heap.size]? = some (.cells #[.int .u32 (wv (qa a b c d)), .int .u32 (wv (qb a b c d)), .int .u32 (wv (qc a b c d)), .int .u32 (wv (qd a b c d))] 22 (0, 0)) := by
  have h := fun C T w => rq_any w.heap.size C T 0 1 2 3 #[.int .u32 (wv a), .int .u32 (wv b), .int .u32 (wv c), .int .u32 (wv d)] a b c d w (by decide) (by decide) (by decide) (by decide) (by decide) (by decide) (by simp) (by simp) (by simp) (by simp)
  go_enter Try.func19, Try.ntmps19
  go_wp2_with fail
  refine (rq_any w.heap.size 4 22 0 1 2 3 #[.int .u32 (wv a), .int .u32 (wv b), .int .u32 (wv c), .int .u32 (wv d)] a b c d _ (by decide) (by decide) (by decide) (by decide) (by decide) (by decide) (by simp) (by simp) (by simp) (by simp) (MapKept.heap_alloc w _).1).mono ?_
  rintro e w1 ⟨rfl, hg, hr⟩
  go_wp2_with fail
  go_ret
  exact ⟨rfl, below_of_grown hg, hr⟩

set_option maxHeartbeats 400000 in
theorem quarters_any (a b c d : W32) (w : World) :
    Calls Try.prog 3 #[.int .u32 (wv a), .int .u32 (wv b), .int .u32 (wv c), .int .u32 (wv d)] w fun e w' => e = .returned (.bool true) ∧ Below w.heap.size w w' := by
  have H := Lib.hid (fun w => quarter_any a b c d w)
  go_enter Try.func3, Try.ntmps3
  go_wp2_with fail
  refine (H.out _).mono ?_
  rintro e w1 ⟨rfl, rfl⟩
  go_wp2_with fail
  refine (rquarter_any a b c d _).mono ?_
  rintro e w2 ⟨rfl, hb, hr⟩
  have c0 := cell_of_row w2 _ 0 _ _ _ hr
  have c1 := cell_of_row w2 _ 1 _ _ _ hr
  have c2 := cell_of_row w2 _ 2 _ _ _ hr
  have c3 := cell_of_row w2 _ 3 _ _ _ hr
  generalize qa a b c d = x at *
  generalize qb a b c d = y at *
  generalize qc a b c d = z at *
  generalize qd a b c d = v at *
  simp at c0 c1 c2 c3
  clear hr
  go_wp2_with fail
  refine (awake05_any _).mono ?_
  rintro e w3 ⟨rfl, hb2⟩
  go_wp2_with fail
  go_ret
  exact ⟨rfl, below_chain hb hb2⟩
end Go.Proofs.Ytkfacnegfkgcgaa
