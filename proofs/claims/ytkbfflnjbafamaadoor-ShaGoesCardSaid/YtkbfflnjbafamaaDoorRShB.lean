/-
  mailsackref01.Block: the walk.
-/
import Derived.Test.YtkbfflnjbafamaaDoorRShA
import Derived.Deep.RegionWith
namespace Go.Proofs.YtkbfflnjbafamaaDoor
open Go.RowKit MS

structure RBt (w0 : World) (W : Array W32) (v : Value) (j : Nat) (w : World) : Prop where
  own : w.ownsRow w0.heap.size 25 1 v j (wvs (wl W j))
  bel : Below w0.heap.size w0 w

attribute [local go_sem] w_add w_xor w_and w_or w_neg
set_option maxRecDepth 100000 in
set_option maxHeartbeats 1000000 in
theorem rsha_block (gk gh ck ch : Nat) (st : Array W32) (s : ByteArray) (w : World) (hs : s.size = 64)
    (hk : ∀ i, i < 64 → w.cell? ⟨gk, i, none⟩ = some (.int .u32 (wv (KT.getD i 0)))) (hh : ∀ i, i < 8 → w.cell? ⟨gh, i, none⟩ = some (.int .u32 (wv (st.getD i 0)))) :
    Calls Tryd.prog 20 #[.slice (some ⟨gk, 0, none⟩) 64 ck, .slice (some ⟨gh, 0, none⟩) 8 ch, .string s] w fun e w' => Below w.heap.size w w' ∧ ∃ g, e = .returned (.slice (some ⟨g, 0, none⟩) 8 8) ∧ w.heap.size ≤ g ∧ w'.heap[g]? = some (.cells (rowW (blk8 st (be s))) 25 (0, 0)) := by
  obtain ⟨i0, hi, hz0, hz1, hz2⟩ : ∃ i, Tryd.prog.info? 25 = some i ∧ i.zero = some (.int .u32 0) ∧ i.size = 1 ∧ i.bytes = 4 := ⟨_, rfl, rfl, rfl, rfl⟩
  have hgk : gk < w.heap.size := World.block_lt_of_cell? w _ (hk 0 (by decide))
  have hgh : gh < w.heap.size := World.block_lt_of_cell? w _ (hh 0 (by decide))
  have HS := Lib.hid hs
  have HK := Lib.hid (fun w' (hb : Below w.heap.size w w') i hi => (hb.cell (p := ⟨gk, i, none⟩) hgk).trans (hk i hi))
  have HH := Lib.hid (fun w' (hb : Below w.heap.size w w') i hi => (hb.cell (p := ⟨gh, i, none⟩) hgh).trans (hh i hi))
  have HLO := Lib.hid (fun t ht => sch_lo (be s) t ht)
  have HHI := Lib.hid (fun t h1 h2 => (nxt_eq (sch (be s)) t).trans (sch_hi (be s) t h1 h2).symm)
  have HBK := Lib.hid (show blk8 st (be s) = addA st (rds (sch (be s)) (ofA st) 64) from rfl)
  generalize sch (be s) = W at HLO HHI HBK
  clear hs hk hh hgk hgh
  have hown0 : w.ownsRow w.heap.size 25 1 (.slice none 0 0) 0 (wvs []) := ⟨rfl, .inl ⟨rfl, rfl⟩⟩
  go_enter Tryd.func20, Tryd.ntmps20
  go_wp2_with fail
  go_loopw [7, 8] (fun v i wr => ∃ j : Nat, j ≤ 64 ∧ i = .int .i64 j ∧ RBt w W v j wr) (fun _ i _ => 64 - (intOf i).toNat)
  case atStart => exact ⟨0, by omega, rfl, hown0, Below.refl _ _⟩
  case round =>
    obtain ⟨j, hj, rfl, hr⟩ := hrel
    have HOWN := Lib.hid hr.own
    have HNX := Lib.hid hr.bel
    clear hr hown0
    by_cases hjN : j < 64
    · have ji : (j : Int) < 64 := by omega
      have jn : (0 : Int) ≤ j := Int.natCast_nonneg j
      have HM := Lib.hid (show j + 1 ≤ maxLen by unfold maxLen; omega)
      have HN := Lib.hid (show (j + 1) * 4 ≤ 140737488355328 by omega)
      by_cases hj16 : j < 16
      · have j16 : (j : Int) < 16 := by omega
        have l0 : 4 * (j : Int) < s.size := by have := HS.out; omega
        have l1 : 4 * (j : Int) + 1 < s.size := by have := HS.out; omega
        have l2 : 4 * (j : Int) + 2 < s.size := by have := HS.out; omega
        have l3 : 4 * (j : Int) + 3 < s.size := by have := HS.out; omega
        have k0 : (0 : Int) ≤ 4 * (j : Int) := by omega
        have k1 : (0 : Int) ≤ 4 * (j : Int) + 1 := by omega
        have k2 : (0 : Int) ≤ 4 * (j : Int) + 2 := by omega
        have k3 : (0 : Int) ≤ 4 * (j : Int) + 3 := by omega
        go_wp2_with fail
        refine wp_region_any (by kernel_rfl) ?_
        change wpAny _ _ _ _ _ _ _ (World.drew _)
        refine wpAny_take_at (i := 0) (d := 30) (v := u7) rfl (by kernel_rfl) (by kernel_rfl) (by kernel_rfl) (fun _ _ _ h => h) rfl (Or.inl ⟨by rfl, by intro w; go_simp⟩) ?_
        simp only [Act.put, List.setIfInBounds_toArray, List.set_cons_zero, List.set_cons_succ]
        refine wpAny_quiet_mid (fun w' => ∃ k, w' = wr.drewN k) #[true, true, true, true, true, true, true, true, true, true, true, true, true, true, true, true, true, true, true, true, true, true, true, true, true, true, true, true, true, true, false, false, false] 1 29 3 (by kernel_rfl) (by kernel_rfl) (by kernel_rfl) (by kernel_rfl) rfl ⟨1, rfl⟩ ?_
        simp only [List.take_succ_cons, List.take_zero, List.drop_succ_cons, List.drop_zero]
        repeat (go_big_quiet_step (fail))
        refine wpQuiet_nil ?_
        intro _ hw'
        obtain ⟨kk, hw''⟩ := hw'
        subst hw''
        refine wpAny_tail 30 3 (by kernel_rfl) rfl ?_
        simp only [List.drop_succ_cons, List.drop_zero]
        have hb4 := be_or4 (s[4 * j]'(by have := HS.out; omega)).toNat (s[4 * j + 1]'(by have := HS.out; omega)).toNat (s[4 * j + 2]'(by have := HS.out; omega)).toNat (s[4 * j + 3]'(by have := HS.out; omega)).toNat (UInt8.toNat_lt _) (UInt8.toNat_lt _) (UInt8.toNat_lt _) (UInt8.toNat_lt _)
        rw [hb4]
        clear hb4
        have hV : W.getD j 0 = beN (s[4 * j]'(by have := HS.out; omega)).toNat (s[4 * j + 1]'(by have := HS.out; omega)).toNat (s[4 * j + 2]'(by have := HS.out; omega)).toNat (s[4 * j + 3]'(by have := HS.out; omega)).toNat := by
          rw [HLO.out j hj16, be, ls_get, ls_get, ls_get, ls_get]
        generalize beN _ _ _ _ = V at hV ⊢
        have HV := Lib.hid hV
        clear hV
        have HBQ := Lib.hid (below_drewN HNX.out kk)
        have HOQ := Lib.hid (show (wr.drewN kk).ownsRow _ _ _ _ _ _ from HOWN.out)
        have hs0 : _ ≤ (wr.drewN kk).heap.size := HNX.out.size
        generalize wr.drewN kk = wq at HBQ HOQ hs0 ⊢
        have HA := Lib.hid (HOQ.out.alloc (.cells #[.int .u32 (wv V)] 25 (0, 0)))
        go_wp2_with (at_builtin; refine wpList_append_own _ rfl (.tmp 30) (.tmp 60) 28 rfl _ 25 i0 (.int .u32 0) 1 4 Tryd.underlying28 hi hz0 hz1 hz2 rfl (by decide) _ _ _ rfl HA.out ⟨wq.heap.size, 0, none⟩ 1 1 [.int .u32 (wv V)] rfl rfl (one_cell wq _ _) (one_one _ rfl) HM.out HN.out (le_alloc hs0 _) ?_)
        intro v1 w1 h1 h2 h3
        have HB1 := Lib.hid (below_app HBQ.out _ _ _ _ _ HOQ.out h2)
        have HO1 := Lib.hid h1
        clear h1 h2 h3 hs0
        go_wp2_with fail
        go_roundw
        case rel =>
          refine ⟨j + 1, by omega, by go_num, ?_, HB1.out⟩
          rw [wl_succ, HV.out, wvs_app]
          exact HO1.out
        case measure => simp [intOf]; omega
      · have j16 : ¬ ((j : Int) < 16) := by omega
        obtain ⟨g, cap, hu, _⟩ := HOWN.out.form (by omega)
        have e15 : (j : Int) - 15 = ((j - 15 : Nat) : Int) := by omega
        have e2 : (j : Int) - 2 = ((j - 2 : Nat) : Int) := by omega
        have e16 : (j : Int) - 16 = ((j - 16 : Nat) : Int) := by omega
        have e7 : (j : Int) - 7 = ((j - 7 : Nat) : Int) := by omega
        have c15 := own_word HOWN.out g cap hu (j - 15) (by omega)
        have c2 := own_word HOWN.out g cap hu (j - 2) (by omega)
        have c16 := own_word HOWN.out g cap hu (j - 16) (by omega)
        have c7 := own_word HOWN.out g cap hu (j - 7) (by omega)
        have b15 : ((j - 15 : Nat) : Int) < j := by omega
        have b2 : ((j - 2 : Nat) : Int) < j := by omega
        have b16 : ((j - 16 : Nat) : Int) < j := by omega
        have b7 : ((j - 7 : Nat) : Int) < j := by omega
        have HV0 := HHI.out j (by omega) hjN
        generalize hx : W.getD (j - 15) 0 = x at c15 HV0
        generalize hy : W.getD (j - 2) 0 = y at c2 HV0
        generalize hp : W.getD (j - 7) 0 = p at c7 HV0
        generalize hq : W.getD (j - 16) 0 = q at c16 HV0
        have HV1 := Lib.hid HV0
        clear hx hy hp hq HV0
        obtain ⟨a15, ha15⟩ : ∃ a, a = j - 15 := ⟨_, rfl⟩
        obtain ⟨a2, ha2⟩ : ∃ a, a = j - 2 := ⟨_, rfl⟩
        obtain ⟨a16, ha16⟩ : ∃ a, a = j - 16 := ⟨_, rfl⟩
        obtain ⟨a7, ha7⟩ : ∃ a, a = j - 7 := ⟨_, rfl⟩
        rw [← ha15] at e15 c15 b15
        rw [← ha2] at e2 c2 b2
        rw [← ha16] at e16 c16 b16
        rw [← ha7] at e7 c7 b7
        clear ha15 ha2 ha16 ha7
        have sh3 := w_shr x 3 (wv x / 8) (by unfold wv; omega)
        have sh10 := w_shr y 10 (wv y / 1024) (by unfold wv; omega)
        subst hu
        go_wp2_with fail
        go_quiet (fail)
        go_wp2_with fail
        have d7 : (wr.drewN nq).cell? ⟨g, a7, none⟩ = some (.int .u32 (wv p)) := c7
        have d16 : (wr.drewN nq).cell? ⟨g, a16, none⟩ = some (.int .u32 (wv q)) := c16
        have HNZ := Lib.hid (below_drewN HNX.out nq)
        have HOZ := Lib.hid (show (wr.drewN nq).ownsRow _ _ _ _ _ _ from HOWN.out)
        clear c15 c2 c16 c7
        generalize wr.drewN nq = wz at d7 d16 HNZ HOZ ⊢
        refine wp_region_any (by kernel_rfl) ?_
        change wpAny _ _ _ _ _ _ _ (World.drew _)
        refine wpAny_take_at (i := 0) (d := 72) (v := .slice (some ⟨g, 0, none⟩) j cap) rfl (by kernel_rfl) (by kernel_rfl) (by kernel_rfl) (fun _ _ _ h => h) rfl (Or.inl ⟨by rfl, by intro w; go_simp⟩) ?_
        simp only [Act.put, List.setIfInBounds_toArray, List.set_cons_zero, List.set_cons_succ]
        refine wpAny_quiet_mid (fun w' => ∃ k, w' = wz.drewN k) #[true, true, true, true, true, true, true, true, true, true, true, true, true, true, true, true, true, true, true, true, true, true, true, true, true, true, true, true, true, true, false, false, false] 1 29 3 (by kernel_rfl) (by kernel_rfl) (by kernel_rfl) (by kernel_rfl) rfl ⟨1, rfl⟩ ?_
        simp only [List.take_succ_cons, List.take_zero, List.drop_succ_cons, List.drop_zero]
        repeat (go_big_quiet_step ((first | (go_at_call_of 36 (Value.int IntKind.i64 7); exact Calls.quiet_of (right7 x _)) | (go_at_call_of 36 (Value.int IntKind.i64 18); exact Calls.quiet_of (right18 x _)) | (go_at_call_of 36 (Value.int IntKind.i64 17); exact Calls.quiet_of (right17 y _)) | (go_at_call_of 36 (Value.int IntKind.i64 19); exact Calls.quiet_of (right19 y _)))))
        refine wpQuiet_nil ?_
        intro _ hw'
        obtain ⟨kk, hw''⟩ := hw'
        subst hw''
        refine wpAny_tail 30 3 (by kernel_rfl) rfl ?_
        simp only [List.drop_succ_cons, List.drop_zero]
        have hVe : s0 x + s1 y + p + q = W.getD j 0 := HV1.out
        unfold s0 s1 at hVe
        simp only [w_add]
        rw [hVe]
        generalize hV : W.getD j 0 = V
        have HV := Lib.hid hV
        clear hV hVe sh3 sh10
        have HBQ := Lib.hid (below_drewN HNZ.out kk)
        have HOQ := Lib.hid (show (wz.drewN kk).ownsRow _ _ _ _ _ _ from HOZ.out)
        have hs0 : _ ≤ (wz.drewN kk).heap.size := HNZ.out.size
        generalize wz.drewN kk = wq at HBQ HOQ hs0 ⊢
        have HA := Lib.hid (HOQ.out.alloc (.cells #[.int .u32 (wv V)] 25 (0, 0)))
        go_wp2_with (at_builtin; refine wpList_append_own _ rfl (.tmp 72) (.tmp 102) 28 rfl _ 25 i0 (.int .u32 0) 1 4 Tryd.underlying28 hi hz0 hz1 hz2 rfl (by decide) _ _ _ rfl HA.out ⟨wq.heap.size, 0, none⟩ 1 1 [.int .u32 (wv V)] rfl rfl (one_cell wq _ _) (one_one _ rfl) HM.out HN.out (le_alloc hs0 _) ?_)
        intro v1 w1 h1 h2 h3
        have HB1 := Lib.hid (below_app HBQ.out _ _ _ _ _ HOQ.out h2)
        have HO1 := Lib.hid h1
        clear h1 h2 h3 hs0
        go_wp2_with fail
        go_roundw
        case rel =>
          refine ⟨j + 1, by omega, by go_num, ?_, HB1.out⟩
          rw [wl_succ, HV.out, wvs_app]
          exact HO1.out
        case measure => simp [intOf]; omega
    · have ji : ¬ ((j : Int) < 64) := by omega
      have hj64 : j = 64 := by omega
      obtain ⟨g, cap, hu, hg1, _⟩ := HOWN.out.form (by omega)
      have HW := Lib.hid (fun w' (hb : Below wr.heap.size wr w') i (hi : i < 64) => (hb.cell (p := ⟨g, i, none⟩) (World.block_lt_of_cell? wr _ (own_word HOWN.out g cap hu i (by omega)))).trans (own_word HOWN.out g cap hu i (by omega)))
      subst hu
      have HB0 := Lib.hid HNX.out
      rw [hj64]
      clear hj64 hjN HOWN HNX hg1
      have HC := Lib.hid (fun w' (hb : Below wr.heap.size wr w') => HH.out w' (HB0.out.trans (hb.mono HB0.out.size)))
      have HCK := Lib.hid (fun w' (hb : Below wr.heap.size wr w') => HK.out w' (HB0.out.trans (hb.mono HB0.out.size)))
      have c0 := HC.out wr (Below.refl _ _) 0 (by decide)
      have c1 := HC.out wr (Below.refl _ _) 1 (by decide)
      have c2 := HC.out wr (Below.refl _ _) 2 (by decide)
      have c3 := HC.out wr (Below.refl _ _) 3 (by decide)
      have c4 := HC.out wr (Below.refl _ _) 4 (by decide)
      have c5 := HC.out wr (Below.refl _ _) 5 (by decide)
      have c6 := HC.out wr (Below.refl _ _) 6 (by decide)
      have c7 := HC.out wr (Below.refl _ _) 7 (by decide)
      generalize ha : st.getD 0 0 = ia at c0
      generalize hb : st.getD 1 0 = ib at c1
      generalize hc : st.getD 2 0 = ic at c2
      generalize hd : st.getD 3 0 = idd at c3
      generalize he : st.getD 4 0 = ie at c4
      generalize hf : st.getD 5 0 = iff at c5
      generalize hg : st.getD 6 0 = ig at c6
      generalize hh : st.getD 7 0 = ih at c7
      have HV := Lib.hid (show ofA st = ⟨ia, ib, ic, idd, ie, iff, ig, ih⟩ by rw [ofA, ha, hb, hc, hd, he, hf, hg, hh])
      have HA := Lib.hid (fun v => show addA st v = #[ia + v.a, ib + v.b, ic + v.c, idd + v.d, ie + v.e, iff + v.f, ig + v.g, ih + v.h] by rw [addA, ha, hb, hc, hd, he, hf, hg, hh])
      have HCC := Lib.hid (fun w' (hb' : Below wr.heap.size wr w') => (⟨by rw [← ha]; exact HC.out w' hb' 0 (by decide), by rw [← hb]; exact HC.out w' hb' 1 (by decide), by rw [← hc]; exact HC.out w' hb' 2 (by decide), by rw [← hd]; exact HC.out w' hb' 3 (by decide), by rw [← he]; exact HC.out w' hb' 4 (by decide), by rw [← hf]; exact HC.out w' hb' 5 (by decide), by rw [← hg]; exact HC.out w' hb' 6 (by decide), by rw [← hh]; exact HC.out w' hb' 7 (by decide)⟩ :
        w'.cell? ⟨gh, 0, none⟩ = some (.int .u32 (wv ia)) ∧ w'.cell? ⟨gh, 1, none⟩ = some (.int .u32 (wv ib)) ∧ w'.cell? ⟨gh, 2, none⟩ = some (.int .u32 (wv ic)) ∧ w'.cell? ⟨gh, 3, none⟩ = some (.int .u32 (wv idd)) ∧ w'.cell? ⟨gh, 4, none⟩ = some (.int .u32 (wv ie)) ∧ w'.cell? ⟨gh, 5, none⟩ = some (.int .u32 (wv iff)) ∧ w'.cell? ⟨gh, 6, none⟩ = some (.int .u32 (wv ig)) ∧ w'.cell? ⟨gh, 7, none⟩ = some (.int .u32 (wv ih))))
      clear ha hb hc hd he hf hg hh
      go_wp2_with fail
      go_quiet (fail)
      go_wp2_with fail
      have HBZ := Lib.hid (below_drewN (Below.refl wr.heap.size wr) nq)
      generalize wr.drewN nq = wz at HBZ ⊢
      go_loopw [11, 12, 13, 14, 15, 16, 17, 18, 19] (fun va vb vc vd ve vf vg vh i wr' => ∃ (j : Nat) (a b c d e f g h : W32), j ≤ 64 ∧ i = .int .i64 j ∧ rds W ⟨ia, ib, ic, idd, ie, iff, ig, ih⟩ j = ⟨a, b, c, d, e, f, g, h⟩ ∧ va = .int .u32 (wv a) ∧ vb = .int .u32 (wv b) ∧ vc = .int .u32 (wv c) ∧ vd = .int .u32 (wv d) ∧ ve = .int .u32 (wv e) ∧ vf = .int .u32 (wv f) ∧ vg = .int .u32 (wv g) ∧ vh = .int .u32 (wv h) ∧ Below wr.heap.size wr wr') (fun _ _ _ _ _ _ _ _ i _ => 64 - (intOf i).toNat)
      case atStart => exact ⟨0, ia, ib, ic, idd, ie, iff, ig, ih, by omega, rfl, rfl, rfl, rfl, rfl, rfl, rfl, rfl, rfl, rfl, HBZ.out⟩
      case round =>
        obtain ⟨j, a, b, c, d, e, f, gg, h, hj, rfl, hrd, rfl, rfl, rfl, rfl, rfl, rfl, rfl, rfl, hbl⟩ := hrel
        have HRD := Lib.hid hrd
        have HBL := Lib.hid hbl
        clear hrd hbl c0 c1 c2 c3 c4 c5 c6 c7
        by_cases hjN : j < 64
        · have ji : (j : Int) < 64 := by omega
          have jn : (0 : Int) ≤ j := Int.natCast_nonneg j
          have ck := HCK.out _ HBL.out j hjN
          have cw := HW.out _ HBL.out j hjN
          generalize hk : KT.getD j 0 = kj at ck
          generalize hx : W.getD j 0 = xj at cw
          have HKJ := Lib.hid hk
          have HXJ := Lib.hid hx
          clear hk hx
          go_wp2_with fail
          go_quiet ((first | (go_at_call_of 36 (Value.int IntKind.i64 6); exact Calls.quiet_of (right6 e _)) | (go_at_call_of 36 (Value.int IntKind.i64 11); exact Calls.quiet_of (right11 e _)) | (go_at_call_of 36 (Value.int IntKind.i64 25); exact Calls.quiet_of (right25 e _))))
          go_wp2_with fail
          refine (right2 a _).mono ?_
          rintro _ _ ⟨rfl, k1, rfl⟩
          go_wp2_with fail
          refine (right13 a _).mono ?_
          rintro _ _ ⟨rfl, k2, rfl⟩
          go_wp2_with fail
          refine (right22 a _).mono ?_
          rintro _ _ ⟨rfl, k3, rfl⟩
          go_wp2_with fail
          go_roundw
          case rel =>
            refine ⟨j + 1, _, a, b, c, _, e, f, gg, by omega, by go_num, ?_, congrArg _ (w_add _ _), rfl, rfl, rfl, congrArg _ (w_add _ _), rfl, rfl, rfl, below_drewN HBL.out _⟩
            rw [rds, HRD.out, HKJ.out, HXJ.out, w_ch, w_mj]
            rfl
          case measure => simp [intOf]; omega
        · have ji : ¬ ((j : Int) < 64) := by omega
          have hj64 : j = 64 := by omega
          have HFIN := Lib.hid (show blk8 st (be s) = #[ia + a, ib + b, ic + c, idd + d, ie + e, iff + f, ig + gg, ih + h] by
            rw [HBK.out, HV.out, HA.out, ← hj64, HRD.out])
          obtain ⟨c0, c1, c2, c3, c4, c5, c6, c7⟩ := HCC.out _ HBL.out
          clear hj64 hjN HRD
          go_wp2_with fail
          refine wp_region_draws_tail 40 (by kernel_rfl) (by kernel_rfl) ?_
          simp only [List.take_succ_cons, List.take_zero, List.drop_succ_cons, List.drop_zero]
          repeat (go_big_quiet_step (fail))
          refine wpQuiet_nil ?_
          intro _ hw'
          obtain ⟨kk, hw''⟩ := hw'
          subst hw''
          have HQ := Lib.hid (HB0.out.trans ((below_drewN HBL.out kk).mono HB0.out.size))
          generalize wr.drewN kk = wq at HQ ⊢
          simp only [w_add]
          go_wp2_with fail
          go_ret
          refine ⟨below_alloc HQ.out _, _, rfl, HQ.out.size, ?_⟩
          rw [HFIN.out, show rowW #[ia + a, ib + b, ic + c, idd + d, ie + e, iff + f, ig + gg, ih + h] = #[.int .u32 (wv (ia + a)), .int .u32 (wv (ib + b)), .int .u32 (wv (ic + c)), .int .u32 (wv (idd + d)), .int .u32 (wv (ie + e)), .int .u32 (wv (iff + f)), .int .u32 (wv (ig + gg)), .int .u32 (wv (ih + h))] by simp [rowW]]
          exact (MapKept.heap_alloc wq _).1
end Go.Proofs.YtkbfflnjbafamaaDoor
