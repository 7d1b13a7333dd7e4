/-
  mailsacklaw01.ShaBlocks: the walk.
-/
import Derived.Test.YtkbfflnjbafamaaDoorRShB
import Derived.Test.YtkbfflnjbafamaaDoorShaW
import Derived.Stop.BytesEq
namespace Go.Proofs.YtkbfflnjbafamaaDoor
open Go.RowKit MS

theorem run_same_row (w : World) (d : Nat) (a : Array W32) (hz : a.size = 8) :
    (Op.equalIn (d + 2) 26 (.agg (rowW a)) (.agg (rowW a))).run Tryd.prog w = .ok true w := by
  have hsz : ∀ w, (sizeOf 25).run Tryd.prog w = .ok 1 w := fun w => by kernel_rfl
  rw [Op.equalIn]
  simp only [Sem.run_bind, run_underlying Tryd.underlying26, Result.andThen_ok, hsz, Std.Legacy.Range.forIn_eq_forIn_range', Std.Legacy.Range.size, Nat.sub_zero, Nat.add_sub_cancel, Nat.div_one]
  have hl : ∀ i ∈ List.range' 0 8 1, i < 8 := fun i hi => by simpa using (List.mem_range'_1.1 hi).2
  generalize List.range' 0 8 1 = l at hl ⊢
  induction l with
  | nil => simp
  | cons i l ih =>
    have hi : i < 8 := hl i (by simp)
    have px : (part 25 (rowW a) (i * 1)).run Tryd.prog w = .ok (.int .u32 (wv (a.getD i 0))) w := by
      simp [part, isAgg, run_underlying Tryd.underlying25, rowW, show i < a.size by omega]
    have pe : (Op.equalIn (d + 1) 25 (.int .u32 (wv (a.getD i 0))) (.int .u32 (wv (a.getD i 0)))).run Tryd.prog w = .ok true w := by
      rw [run_equalIn_int w d 25 .u32 .u32 _ _ Tryd.underlying25]
      simp
    simp only [List.forIn_cons, Sem.run_bind, px, pe, Result.andThen_ok, Bool.not_true, Bool.false_eq_true, if_false, Sem.run_pure]
    exact ih fun j hj => hl j (by simp [hj])
theorem run_eql_row_same (a : Array W32) (hz : a.size = 8) (w : World) : (binOp .eql 26 (.agg (rowW a)) (.agg (rowW a))).run Tryd.prog w = .ok (.bool true) w := by
  rw [run_eql_struct, show (10000 : Nat) = 9998 + 2 from rfl, run_same_row w 9998 a hz]
  rfl

set_option maxRecDepth 100000 in
theorem rounds_any (w : World) :
    Calls Tryd.prog 21 #[] w fun e w' => e = .returned (.slice (some ⟨w.heap.size, 0, none⟩) 64 64) ∧ w' = w.alloc (.cells (rowW KT) 25 (0, 0)) := by
  go_enter Tryd.func21, Tryd.ntmps21
  go_wp2_with fail
  go_ret
  exact ⟨rfl, by kernel_rfl⟩

structure LSt (w0 : World) (st a : Array W32) (w : World) : Prop where
  r0 : w.heap[w0.heap.size]? = some (.cells (rowW st) 26 (0, 0))
  bel : Below w0.heap.size w0 w
theorem LSt.on {w0 w w' : World} {st a : Array W32} (h : LSt w0 st a w) (hb : Below w.heap.size w w') : LSt w0 st a w' :=
  ⟨(hb.block _ (Array.getElem?_eq_some_iff.1 h.r0).1).trans h.r0, h.bel.trans (hb.mono h.bel.size)⟩

set_option maxRecDepth 100000 in
set_option maxHeartbeats 1000000 in
theorem shablocks_any (st : Array W32) (hst : st.size = 8) (s : ByteArray) (w : World) (G : Glob w) :
    Calls Tryd.prog 4 #[.agg (rowW st), .string s] w fun e w' => e = .returned (.bool true) ∧ Below w.heap.size w w' := by
  have A := Lib.hid (fun w G => awake01_any w G)
  have HG := Lib.hid G
  have HST := Lib.hid hst
  have HI := Lib.hid (USt.info hst)
  have L0 : LSt w st st (w.alloc (.cells (rowW st) 26 (0, 0))) := ⟨(MapKept.heap_alloc w _).1, below_alloc (Below.refl _ _) _⟩
  have HL0 := Lib.hid L0
  have HL8 := Lib.hid (show (#[.int .u32 0, .int .u32 0, .int .u32 0, .int .u32 0, .int .u32 0, .int .u32 0, .int .u32 0, .int .u32 0] : Array Value).size = (rowW st).size by rw [size_rowW, hst]; rfl)
  clear G hst L0
  by_cases h : s.size > 1024
  · have t1 : decide ((s.size : Int) > 1024) = true := by simp; omega
    go_enter Tryd.func4, Tryd.ntmps4
    go_wp2_with fail
    refine (A.out _ (HG.out.on HL0.out.bel)).mono ?_
    rintro e w1 ⟨rfl, hb1⟩
    go_wp2_with fail
    go_ret
    exact ⟨rfl, HL0.out.bel.trans (hb1.mono HL0.out.bel.size)⟩
  · have t1 : decide ((s.size : Int) > 1024) = false := by simp; omega
    by_cases h64 : s.size = 64
    · have t2 : ((s.size : Int) != 64) = false := by simp; omega
      have B := Lib.hid (fun w G => sblock_yes st s w HST.out h64 G)
      have RB := Lib.hid (fun gk gh ck ch w hk hh => rsha_block gk gh ck ch st s w h64 hk hh)
      have HR8 := Lib.hid (size_blk8 st (be s))
      generalize blk8 st (be s) = R at B RB HR8
      have HIR := Lib.hid (USt.info HR8.out)
      clear h h64
      go_enter Tryd.func4, Tryd.ntmps4
      go_wp2_with (with_reducible refine wpList_load_row rfl 26 (.tmp 2) rfl w.heap.size rfl 26 (rowW st) (0, 0) _ ?hg Tryd.underlying26 rfl HI.out ?_)
      case hg => exact HL0.out.r0
      refine (B.out _ (HG.out.on HL0.out.bel)).mono ?_
      rintro e w1 ⟨rfl, hb1⟩
      have L1 := Lib.hid (HL0.out.on hb1)
      have H1 := Lib.hid (MapKept.heap_alloc w1 (.cells #[.int .u32 0, .int .u32 0, .int .u32 0, .int .u32 0, .int .u32 0, .int .u32 0, .int .u32 0, .int .u32 0] 26 (0, 0))).1
      clear hb1
      go_wp2_with (with_reducible refine wpList_store_row rfl 26 (.tmp 5) (.tmp 14) rfl w1.heap.size (rowW R) rfl rfl 26 #[.int .u32 0, .int .u32 0, .int .u32 0, .int .u32 0, .int .u32 0, .int .u32 0, .int .u32 0, .int .u32 0] ?hg1 HIR.out ?hl1 (one_rowW R) ?_)
      case hg1 => exact H1.out
      case hl1 => rw [size_rowW, HR8.out]; rfl
      have hb2 : Below w1.heap.size w1 ((w1.alloc (.cells #[.int .u32 0, .int .u32 0, .int .u32 0, .int .u32 0, .int .u32 0, .int .u32 0, .int .u32 0, .int .u32 0] 26 (0, 0))).setRow w1.heap.size (rowW R)) := below_setRow (below_alloc (Below.refl _ _) _) (Nat.le_refl _) _
      have hr2 := setRow_heap _ _ _ (rowW R) _ _ H1.out
      have L2 := L1.out.on hb2
      generalize hw2 : World.setRow _ _ _ = w2
      have hw2' : (w1.alloc (.cells #[.int .u32 0, .int .u32 0, .int .u32 0, .int .u32 0, .int .u32 0, .int .u32 0, .int .u32 0, .int .u32 0] 26 (0, 0))).setRow w1.heap.size (rowW R) = w2 := hw2
      rw [hw2'] at L2 hr2
      have HL2 := Lib.hid L2
      have HR2 := Lib.hid hr2
      clear hw2 hw2' hb2 L2 hr2 H1 L1
      generalize w1.heap.size = E at HR2 ⊢
      have hc2 : ∀ i, i < 8 → ((w2.drew).alloc (.cells (rowW KT) 25 (0, 0))).cell? ⟨w.heap.size, i, none⟩ = some (.int .u32 (wv (st.getD i 0))) := by
        intro i hi
        have h0 : ((w2.drew).alloc (.cells (rowW KT) 25 (0, 0))).heap[w.heap.size]? = some (.cells (rowW st) 26 (0, 0)) := ((MapKept.heap_alloc w2.drew _).2 _ (Array.getElem?_eq_some_iff.1 HL2.out.r0).1).trans HL2.out.r0
        rw [cell_of_row _ _ i _ _ _ h0, rowW_get st i (by rw [HST.out]; exact hi)]
      have hk2 : ∀ i, i < 64 → ((w2.drew).alloc (.cells (rowW KT) 25 (0, 0))).cell? ⟨w2.drew.heap.size, i, none⟩ = some (.int .u32 (wv (KT.getD i 0))) := by
        intro i hi
        rw [cell_of_row _ _ i _ _ _ (MapKept.heap_alloc w2.drew _).1, rowW_get KT i hi]
      have hb3 : Below w2.heap.size w2 ((w2.drew).alloc (.cells (rowW KT) 25 (0, 0))) := (Below.refl _ _).drew.alloc (Nat.le_refl _) _
      have HC2 := Lib.hid hc2
      have HK2 := Lib.hid hk2
      have HB3 := Lib.hid hb3
      clear hc2 hk2 hb3
      refine wp_region_any (by kernel_rfl) ?_
      change wpAny _ _ _ _ _ _ _ (World.drew _)
      refine wpAny_take_at (i := 2) (d := 26) (v := .string s) rfl (by kernel_rfl) (by kernel_rfl) (by kernel_rfl) (fun _ _ _ h => h) rfl (Or.inl ⟨by rfl, by intro w; go_simp⟩) ?_
      refine wpAny_take_at (i := 1) (d := 25) (v := .slice (some ⟨w.heap.size, 0, none⟩) 8 8) rfl (by kernel_rfl) (by kernel_rfl) (by kernel_rfl) (fun _ _ _ h => h) rfl (Or.inl ⟨by rfl, by intro w; go_simp⟩) ?_
      simp only [Act.put, List.setIfInBounds_toArray, List.set_cons_zero, List.set_cons_succ]
      refine wpAny_ready (rs := [0]) (by kernel_rfl) (by simp) ?_
      refine AllReady.cons rfl (fun K hK => ?_) AllReady.nil
      go_simp
      refine (rounds_any _).mono ?_
      rintro e w3 ⟨rfl, rfl⟩
      go_simp
      refine hK _ _ ?_
      clear hK K
      refine wpAny_ready (rs := [3]) (by kernel_rfl) (by simp) ?_
      refine AllReady.cons rfl (fun K hK => ?_) AllReady.nil
      go_simp
      refine (RB.out w2.drew.heap.size w.heap.size 64 8 _ HK2.out HC2.out).mono ?_
      rintro e w4 ⟨hb4, g, rfl, hgg, hg4⟩
      go_simp
      refine hK _ _ ?_
      clear hK K
      refine wpAny_ready (rs := [4]) (by kernel_rfl) (by simp) ?_
      refine AllReady.cons rfl (fun K hK => ?_) AllReady.nil
      go_simp
      refine hK _ _ ?_
      clear hK K
      refine wpAny_done (by kernel_rfl) ?_ _
      have hE4 : w4.heap[E]? = some (.cells (rowW R) 26 (0, 0)) := by
        have h0 := HR2.out
        have h1 : (w2.drew.alloc (.cells (rowW KT) 25 (0, 0))).heap[E]? = some (.cells (rowW R) 26 (0, 0)) := ((MapKept.heap_alloc w2.drew _).2 _ (Array.getElem?_eq_some_iff.1 h0).1).trans h0
        exact (hb4.block _ (Array.getElem?_eq_some_iff.1 h1).1).trans h1
      have hL4 : LSt w st st w4 := (HL2.out.on HB3.out).on hb4
      have HE4 := Lib.hid hE4
      have HG4 := Lib.hid hg4
      have HL4 := Lib.hid hL4
      clear hE4 hg4 hL4 hb4 hgg HC2 HK2 HB3 RB B HL2 HR2
      have HCE := Lib.hid (fun w' (hb' : Below w4.heap.size w4 w') (i : Nat) (hi : i < 8) => show w'.cell? ⟨E, i, none⟩ = some (.int .u32 (wv (R.getD i 0))) from by
        have h1 := (hb'.block _ (Array.getElem?_eq_some_iff.1 HE4.out).1).trans HE4.out
        rw [cell_of_row _ _ i _ _ _ h1, rowW_get R i (by rw [HR8.out]; exact hi)])
      have HCG := Lib.hid (fun w' (hb' : Below w4.heap.size w4 w') (i : Nat) (hi : i < 8) => show w'.cell? ⟨g, i, none⟩ = some (.int .u32 (wv (R.getD i 0))) from by
        have h1 := (hb'.block _ (Array.getElem?_eq_some_iff.1 HG4.out).1).trans HG4.out
        rw [cell_of_row _ _ i _ _ _ h1, rowW_get R i (by rw [HR8.out]; exact hi)])
      go_wp2_with fail
      go_loopw [28] (fun i wr => ∃ j : Nat, j ≤ 8 ∧ i = .int .i64 j ∧ Below w4.heap.size w4 wr) (fun i _ => 8 - (intOf i).toNat)
      case atStart => exact ⟨0, by omega, rfl, Below.refl _ _⟩
      case round =>
        obtain ⟨j, hj, rfl, hbl⟩ := hrel
        have HBL := Lib.hid hbl
        clear hbl
        by_cases hjN : j < 8
        · have ji : (j : Int) < 8 := by omega
          have jn : (0 : Int) ≤ j := Int.natCast_nonneg j
          have ce := HCE.out _ HBL.out j hjN
          have cg := HCG.out _ HBL.out j hjN
          generalize hk : R.getD j 0 = kj at ce cg
          clear hk
          go_wp2_with fail
          go_quiet (fail)
          go_wp2_with fail
          go_roundw
          case rel =>
            exact ⟨j + 1, by omega, by go_num, below_drewN HBL.out _⟩
          case measure => simp [intOf]; omega
        · have ji : ¬ ((j : Int) < 8) := by omega
          go_wp2_with fail
          refine (A.out _ (HG.out.on (HL4.out.on HBL.out).bel)).mono ?_
          rintro e w5 ⟨rfl, hb5⟩
          go_wp2_with fail
          go_ret
          exact ⟨rfl, (HL4.out.on HBL.out).bel.trans (hb5.mono (HL4.out.on HBL.out).bel.size)⟩
    · have t2 : ((s.size : Int) != 64) = true := by simp; omega
      have B := Lib.hid (fun w => sblock_no st s w HST.out h64)
      have heq := fun w => run_eql_row_same st HST.out w
      clear h h64
      go_enter Tryd.func4, Tryd.ntmps4
      go_wp2_with (with_reducible refine wpList_load_row rfl 26 (.tmp 2) rfl w.heap.size rfl 26 (rowW st) (0, 0) _ ?hg Tryd.underlying26 rfl HI.out ?_)
      case hg => exact HL0.out.r0
      refine (B.out _).mono ?_
      rintro e w1 ⟨rfl, hb1⟩
      have L1 := Lib.hid (HL0.out.on hb1)
      have H1 := Lib.hid (MapKept.heap_alloc w1 (.cells #[.int .u32 0, .int .u32 0, .int .u32 0, .int .u32 0, .int .u32 0, .int .u32 0, .int .u32 0, .int .u32 0] 26 (0, 0))).1
      clear hb1
      have hb2 : Below w1.heap.size w1 ((w1.alloc (.cells #[.int .u32 0, .int .u32 0, .int .u32 0, .int .u32 0, .int .u32 0, .int .u32 0, .int .u32 0, .int .u32 0] 26 (0, 0))).setRow w1.heap.size (rowW st)) := below_setRow (below_alloc (Below.refl _ _) _) (Nat.le_refl _) _
      have L2 := Lib.hid (L1.out.on hb2)
      have HR2 := Lib.hid (setRow_heap _ _ _ (rowW st) _ _ H1.out)
      clear hb2
      go_wp2_with (first
        | (with_reducible refine wpList_store_row rfl 26 (.tmp 5) (.tmp 14) rfl w1.heap.size (rowW st) rfl rfl 26 #[.int .u32 0, .int .u32 0, .int .u32 0, .int .u32 0, .int .u32 0, .int .u32 0, .int .u32 0, .int .u32 0] ?hg1 HI.out HL8.out (one_rowW st) ?_)
        | (with_reducible refine wpList_load_row rfl 26 (.tmp 5) rfl w1.heap.size rfl 26 (rowW st) (0, 0) _ ?hg2 Tryd.underlying26 rfl HI.out ?_)
        | (with_reducible refine wpList_load_row rfl 26 (.tmp 2) rfl w.heap.size rfl 26 (rowW st) (0, 0) _ ?hg3 Tryd.underlying26 rfl HI.out ?_))
      case hg1 => exact H1.out
      case hg2 => exact HR2.out
      case hg3 => exact L2.out.r0
      refine (A.out _ (HG.out.on L2.out.bel)).mono ?_
      rintro e w3 ⟨rfl, hb3⟩
      go_wp2_with fail
      go_ret
      exact ⟨rfl, L2.out.bel.trans (hb3.mono L2.out.bel.size)⟩
end Go.Proofs.YtkbfflnjbafamaaDoor
