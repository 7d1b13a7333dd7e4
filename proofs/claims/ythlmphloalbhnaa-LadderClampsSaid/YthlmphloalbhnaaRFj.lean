/-
  mailsacklaw03.num, FeSums, FeProducts: the walks.
-/
import Derived.Test.YthlmphloalbhnaaRFi
import Derived.Test.YthlmphloalbhnaaHeld
import Derived.Test.YthlmphloalbhnaaFeY
namespace Go.Proofs.Ythlmphloalbhnaa
open Go.RowKit MS

set_option maxRecDepth 1000000 in
set_option maxHeartbeats 1000000 in
theorem num_any (x : N5) (hx : x.ok) (w : World) :
    Calls Try.prog 15 #[.agg (nvA x)] w fun e w' => Below w.heap.size w w' ∧ ∃ r, e = .returned r ∧ DS w' 0 r 16 (x.v % Q') := by
  obtain ⟨W, hW⟩ : ∃ W : World, W = w.alloc (.cells (nvA x) 24 (0, 0)) := ⟨_, rfl⟩
  have B0 : Below w.heap.size w W := by rw [hW]; exact below_alloc (Below.refl _ _) _
  have h0 : W.heap[w.heap.size]? = some (.cells (nvA x) 24 (0, 0)) := by rw [hW]; exact heap_alloc_new _ _
  have hs : w.heap.size < W.heap.size := by rw [hW, World.size_alloc]; omega
  obtain ⟨L, hLd⟩ : ∃ L : Nat → Nat, L = fun i => [x.a, x.b, x.c, x.d, x.e].getD i 0 := ⟨_, rfl⟩
  have hH : horn L 5 = x.v := by subst hLd; exact horn_five x _ rfl rfl rfl rfl rfl
  have P0 := Lib.hid (rfparts_any L (by
      intro i hi
      subst hLd
      obtain ⟨p0, p1, p2, p3, p4⟩ := hx
      match i, hi with
      | 0, _ => exact p0
      | 1, _ => exact p1
      | 2, _ => exact p2
      | 3, _ => exact p3
      | 4, _ => exact p4) w.heap.size W (by
      intro w' hb i hi
      rw [cell_of_row w' w.heap.size i (nvA x) 24 (0, 0) (by rw [hb.block _ hs]; exact h0)]
      subst hLd
      match i, hi with
      | 0, _ => rfl
      | 1, _ => rfl
      | 2, _ => rfl
      | 3, _ => rfl
      | 4, _ => rfl))
  rw [hH] at P0
  have BH := Lib.hid B0
  unfold nvA at hW ⊢
  clear hx h0 hs hLd hH B0
  go_enter Try.func15, Try.ntmps15
  go_wp2_with fail
  rw [← hW]
  refine P0.out.mono ?_
  rintro e w1 ⟨hb1, r1, rfl, hd1⟩
  have E1 := Lib.hid (show Below w.heap.size w w1 ∧ DS w1 0 r1 16 (x.v % Q') from ⟨BH.out.trans (hb1.mono BH.out.size), hd1⟩)
  clear hb1 hd1 P0
  go_wp2_with fail
  go_ret
  exact ⟨E1.out.1, _, rfl, E1.out.2⟩

theorem sub_val (a : N5) {b : N5} (hb : b.ok) : (sub a b).v % Q' = (a.v % Q' + (Q' - b.v % Q')) % Q' := by
  have h := em_sub_add a hb
  unfold em at h
  rw [add_mod] at h
  have hq : b.v % Q' < Q' := Nat.mod_lt _ (by decide)
  have e1 : (a.v % Q' + (Q' - b.v % Q')) % Q' = (((sub a b).v + b.v) % Q' + (Q' - b.v % Q')) % Q' := by rw [h]
  rw [e1, Nat.add_mod (sub a b).v b.v, Nat.add_mod ((_ : Nat) % Q'), Nat.mod_mod, ← Nat.add_mod]
  rw [Nat.add_assoc, Nat.add_sub_cancel' (Nat.le_of_lt hq), Nat.add_mod_right, Nat.mod_mod]
end Go.Proofs.Ythlmphloalbhnaa
