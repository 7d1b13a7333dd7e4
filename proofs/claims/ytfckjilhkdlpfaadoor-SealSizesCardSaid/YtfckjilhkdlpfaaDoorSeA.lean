/-
  seal.Class, mailsackref08.Class: the walks.
-/
import Derived.Test.YtfckjilhkdlpfaaDoorSeBase
import Derived.Laws.Rows
namespace Go.Proofs.YtfckjilhkdlpfaaDoor
open Go.RowKit MS

/-- The classes' cells. -/
def clsA : Array Value := #[.int .i64 128, .int .i64 256, .int .i64 512, .int .i64 704]
structure Cls (w : World) : Prop where
  c0 : ∃ t fr, w.heap[0]? = some (.cells clsA t fr)
theorem Cls.lt {w : World} (h : Cls w) : 0 < w.heap.size := by
  obtain ⟨t, fr, h⟩ := h.c0
  exact (Array.getElem?_eq_some_iff.1 h).1
theorem Cls.on {w w' : World} (h : Cls w) (hb : Below w.heap.size w w') : Cls w' := by
  obtain ⟨t, fr, h0⟩ := h.c0
  exact ⟨t, fr, (hb.block 0 h.lt).trans h0⟩
theorem infoC : (Tryd.prog.info? 64).map (·.size) = some clsA.size := by kernel_rfl
theorem run_index_cls (j : Nat) (hj : j < 4) (c : Nat) (hc : [128, 256, 512, 704][j]? = some c) (w : World) : (Instr.index 64 (.agg clsA) (.int .i64 j)).run Tryd.prog w = .ok (.int .i64 c) w := by
  have hn : (0 : Int) ≤ j ∧ (j : Int) < 4 := by omega
  have hu := Tryd.underlying64
  have hi : (Tryd.prog.info? 3).map (·.size) = some 1 := by kernel_rfl
  have hc' : clsA[j]? = some (.int .i64 c) := by
    have : clsA = ([128, 256, 512, 704].map (fun n : Nat => Value.int .i64 (n : Int))).toArray := rfl
    rw [this, List.getElem?_toArray, List.getElem?_map, hc]
    rfl
  cases hq : Tryd.prog.info? 3 with
  | none => simp [hq] at hi
  | some i =>
    have hs : i.size = 1 := by simpa [hq] using hi
    simp [Instr.index, run_underlying hu, asIntOf, go_sem, sizeOf, typeInfo, hq, hs, hn]
    rw [if_pos hj, hc']
    rfl

set_option maxRecDepth 100000 in
set_option maxHeartbeats 1000000 in
theorem class_any (n : Int) (w : World) (C : Cls w) :
    Calls Tryd.prog 20 #[.int .i64 n] w fun e w' => e = .returned (.int .i64 (clsI n : Nat)) ∧ w = w' := by
  by_cases h0 : n < 0
  · have HR := Lib.hid (clsI_big n (.inl h0))
    rw [HR.out]
    go_enter Tryd.func20, Tryd.ntmps20
    go_wp2_with fail
    go_ret
    exact ⟨rfl, rfl⟩
  · have n0 : ¬ n < 0 := h0
    by_cases h7 : n > 700
    · have HR := Lib.hid (clsI_big n (.inr h7))
      rw [HR.out]
      clear h0
      go_enter Tryd.func20, Tryd.ntmps20
      go_wp2_with fail
      go_ret
      exact ⟨rfl, rfl⟩
    · obtain ⟨m, rfl⟩ : ∃ m : Nat, n = (m : Int) := ⟨n.toNat, by omega⟩
      have hm : m ≤ 700 := by omega
      have HR := Lib.hid (clsI_nat m hm)
      rw [HR.out]
      obtain ⟨t0, fr0, hc⟩ := C.c0
      have HC := Lib.hid hc
      have HI := Lib.hid infoC
      have t7 : ¬ (m : Int) > 700 := by omega
      have m0 : (0 : Int) ≤ (m : Int) := by omega
      obtain ⟨r, hr⟩ : ∃ r, clsN m = r := ⟨_, rfl⟩
      rw [hr]
      have HCL := Lib.hid hr
      have HM := Lib.hid hm
      clear h0 n0 h7 C hc hr hm
      go_enter Tryd.func20, Tryd.ntmps20
      go_wp2_with (with_reducible refine wpList_load_row rfl 64 (.global 0) rfl 0 rfl t0 clsA fr0 _ HC.out Tryd.underlying64 rfl HI.out ?_)
      go_loop [12] (fun i => ∃ j : Nat, j ≤ 4 ∧ i = .int .i64 j ∧ (0 < j → 128 < m + 2) ∧ (1 < j → 256 < m + 2) ∧ (2 < j → 512 < m + 2) ∧ (3 < j → 704 < m + 2)) (fun i => 4 - (intOf i).toNat)
      case atStart => exact ⟨0, by omega, rfl, by omega, by omega, by omega, by omega⟩
      case round =>
        obtain ⟨j, hj, rfl, g0, g1, g2, g3⟩ := hrel
        have r4 : j = 0 ∨ j = 1 ∨ j = 2 ∨ j = 3 ∨ j = 4 := by omega
        have G := Lib.hid (And.intro g0 (And.intro g1 (And.intro g2 g3)))
        have HJ := Lib.hid hj
        clear g0 g1 g2 g3 hj
        by_cases hlt : j < 4
        · obtain ⟨c, hc, hcv⟩ : ∃ c : Nat, [128, 256, 512, 704][j]? = some c ∧ c ≤ 704 := by
            rcases r4 with rfl | rfl | rfl | rfl | rfl
            · exact ⟨128, rfl, by decide⟩
            · exact ⟨256, rfl, by decide⟩
            · exact ⟨512, rfl, by decide⟩
            · exact ⟨704, rfl, by decide⟩
            · omega
          have hix := fun w => run_index_cls j hlt c hc w
          have j1 : (j : Int) < 4 := by omega
          have j0 : (0 : Int) ≤ (j : Int) := by omega
          have HCC := Lib.hid hc
          have HLT := Lib.hid hlt
          by_cases hle : m + 2 ≤ c
          · have t1 : (2 : Int) + (m : Int) ≤ (c : Int) := by omega
            have HRES := Lib.hid (show c = r from by
              rw [← HCL.out]
              obtain ⟨g0, g1, g2, g3⟩ := G.out
              unfold clsN
              rcases r4 with rfl | rfl | rfl | rfl | rfl
              · obtain rfl : 128 = c := Option.some.inj hc
                rw [if_pos (by omega)]
              · obtain rfl : 256 = c := Option.some.inj hc
                rw [if_neg (by omega), if_pos (by omega)]
              · obtain rfl : 512 = c := Option.some.inj hc
                rw [if_neg (by omega), if_neg (by omega), if_pos (by omega)]
              · obtain rfl : 704 = c := Option.some.inj hc
                rw [if_neg (by omega), if_neg (by omega), if_neg (by omega)]
              · omega)
            clear r4 hc hle hlt
            go_wp2_with fail
            go_ret
            exact ⟨by rw [← HRES.out]; rfl, rfl⟩
          · have t1 : ¬ (2 : Int) + (m : Int) ≤ (c : Int) := by omega
            have HG2 := Lib.hid (show (0 < j + 1 → 128 < m + 2) ∧ (1 < j + 1 → 256 < m + 2) ∧ (2 < j + 1 → 512 < m + 2) ∧ (3 < j + 1 → 704 < m + 2) from by
              obtain ⟨g0, g1, g2, g3⟩ := G.out
              rcases r4 with rfl | rfl | rfl | rfl | rfl
              · obtain rfl : 128 = c := Option.some.inj hc
                omega
              · obtain rfl : 256 = c := Option.some.inj hc
                omega
              · obtain rfl : 512 = c := Option.some.inj hc
                omega
              · obtain rfl : 704 = c := Option.some.inj hc
                omega
              · omega)
            clear r4 hc hle hlt
            go_wp2_with fail
            go_round
            case rel => exact ⟨j + 1, HLT.out, by go_num, HG2.out.1, HG2.out.2.1, HG2.out.2.2.1, HG2.out.2.2.2⟩
            case measure => simp [intOf]; have := HLT.out; omega
        · exfalso
          have h4 : j = 4 := by have := HJ.out; omega
          obtain ⟨_, _, _, g3⟩ := G.out
          have := g3 (by omega)
          have := HM.out
          omega

set_option maxRecDepth 100000 in
set_option maxHeartbeats 1000000 in
theorem rclass_any (n : Int) (w : World) :
    Calls Tryd.prog 21 #[.int .i64 n] w fun e w' => e = .returned (.int .i64 (clsI n : Nat)) ∧ w = w' := by
  by_cases h0 : n < 0
  · have HR := Lib.hid (clsI_big n (.inl h0))
    rw [HR.out]
    go_enter Tryd.func21, Tryd.ntmps21
    go_wp2_with fail
    go_ret
    exact ⟨rfl, rfl⟩
  · by_cases h7 : n > 700
    · have HR := Lib.hid (clsI_big n (.inr h7))
      rw [HR.out]
      go_enter Tryd.func21, Tryd.ntmps21
      go_wp2_with fail
      go_ret
      exact ⟨rfl, rfl⟩
    · obtain ⟨m, rfl⟩ : ∃ m : Nat, n = (m : Int) := ⟨n.toNat, by omega⟩
      have hm : m ≤ 700 := by omega
      have HR := Lib.hid (clsI_nat m hm)
      rw [HR.out]
      by_cases h1 : m ≤ 126
      · have t1 : (m : Int) ≤ 126 := by omega
        have H := Lib.hid (show clsN m = 128 by unfold clsN; rw [if_pos h1])
        rw [H.out]
        clear h1 hm
        go_enter Tryd.func21, Tryd.ntmps21
        go_wp2_with fail
        go_ret
        exact ⟨rfl, rfl⟩
      · have t1 : ¬ (m : Int) ≤ 126 := by omega
        by_cases h2 : m ≤ 254
        · have t2 : (m : Int) ≤ 254 := by omega
          have H := Lib.hid (show clsN m = 256 by unfold clsN; rw [if_neg h1, if_pos h2])
          rw [H.out]
          clear h1 h2 hm
          go_enter Tryd.func21, Tryd.ntmps21
          go_wp2_with fail
          go_ret
          exact ⟨rfl, rfl⟩
        · have t2 : ¬ (m : Int) ≤ 254 := by omega
          by_cases h3 : m ≤ 510
          · have t3 : (m : Int) ≤ 510 := by omega
            have H := Lib.hid (show clsN m = 512 by unfold clsN; rw [if_neg h1, if_neg h2, if_pos h3])
            rw [H.out]
            clear h1 h2 h3 hm
            go_enter Tryd.func21, Tryd.ntmps21
            go_wp2_with fail
            go_ret
            exact ⟨rfl, rfl⟩
          · have t3 : ¬ (m : Int) ≤ 510 := by omega
            have H := Lib.hid (show clsN m = 704 by unfold clsN; rw [if_neg h1, if_neg h2, if_neg h3])
            rw [H.out]
            clear h1 h2 h3 hm
            go_enter Tryd.func21, Tryd.ntmps21
            go_wp2_with fail
            go_ret
            exact ⟨rfl, rfl⟩
end Go.Proofs.YtfckjilhkdlpfaaDoor
