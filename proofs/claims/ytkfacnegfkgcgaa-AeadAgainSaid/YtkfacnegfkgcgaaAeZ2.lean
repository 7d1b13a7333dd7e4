/-
  Texts of this seat, put together: RBlk, TrnA, TrnB, PolP, Dig, Rw, PolQ, PolS, RTrn, LTrn, AeadP, Util, Own2, BytE, BQ.
-/
import Derived.Test.YtkfacnegfkgcgaaAeZ1
import Derived.Deep.Light
import Derived.Laws.IdiomStrings
import Derived.Deep.QuietTactic
import Derived.Below
import Derived.Laws.Rows
import Derived.Laws.AppendOwn
import Derived.Lib.SmallJoins
import Derived.Test.YtkfacnegfkgcgaaProg
import Derived.BigRegion
import Derived.BigQuiet
import Derived.Deep.AppendLies
import Derived.Laws.ResultCell
import Derived.Lib.BufferWrite

/-
  mailsackref05.Block: the walk.
-/
namespace Go.Proofs.Ytkfacnegfkgcgaa
open Go.RowKit MS

attribute [local go_sem] w_add
set_option maxRecDepth 100000 in
set_option maxHeartbeats 600000 in
theorem rblock (k n : ByteArray) (c : W32) (w : World) (hk : k.size = 32) (hn : n.size = 12) :
    Calls Try.prog 22 #[.string k, .string n, .int .u32 (wv c)] w fun e w' => e = .returned (.string (blkB (iw k n c))) ∧ Below w.heap.size w w' := by
  obtain ⟨i0, hi, hz0, hz1, hz2⟩ : ∃ i, Try.prog.info? 22 = some i ∧ i.zero = some (.int .u32 0) ∧ i.size = 1 ∧ i.bytes = 4 := ⟨_, rfl, rfl, rfl, rfl⟩
  obtain ⟨i8, hj0, hy0, hy1, hy2⟩ : ∃ i, Try.prog.info? 5 = some i ∧ i.zero = some (.int .u8 0) ∧ i.size = 1 ∧ i.bytes = 1 := ⟨_, rfl, rfl, rfl, rfl⟩
  have HK := Lib.hid hk
  have HN := Lib.hid hn
  clear hk hn
  have hown0 : w.ownsRow w.heap.size 22 1 (.slice none 0 0) 0 (wvsCh []) := ⟨rfl, .inl ⟨rfl, rfl⟩⟩
  go_enter Try.func22, Try.ntmps22
  go_wp2_with fail
  go_loopw [7, 8] (fun v i wr => ∃ j : Nat, j ≤ 4 ∧ i = .int .i64 (4 * (j : Int)) ∧ wr.ownsRow w.heap.size 22 1 v (j) (wvsCh ((List.range j).map (leW cst))) ∧ Below w.heap.size w wr) (fun _ i _ => 16 - (intOf i).toNat)
  case atStart => exact ⟨0, by omega, rfl, hown0, Below.refl _ _⟩
  case round =>
    obtain ⟨j, hj, rfl, hown, hnx⟩ := hrel
    have HOWN := Lib.hid hown
    have HNX := Lib.hid hnx
    clear hown hnx hown0
    by_cases hjN : j < 4
    · go_wp2_with fail
      change Calls _ _ #[.string cst, _] _ _
      refine (word_any cst j (by show 4 * j + 4 ≤ 16; omega) (by omega) wr).mono ?_
      rintro e w2 ⟨rfl, kk, rfl⟩
      have hown2 : ((wr.drewN kk).alloc (.cells #[.int .u32 (wv (leW cst j))] 22 (0, 0))).ownsRow w.heap.size 22 1 u7 (j) (wvsCh ((List.range j).map (leW cst))) := HOWN.out.alloc _
      have HOWN2 := Lib.hid hown2
      have hsz := HNX.out.size
      clear hown2
      go_wp2_with (at_builtin; refine wpList_append_own _ rfl (.tmp 21) (.tmp 24) 25 rfl w.heap.size 22 i0 (.int .u32 0) 1 4 Try.underlying25 hi hz0 hz1 hz2 rfl (by decide) _ _ _ rfl HOWN2.out ⟨wr.heap.size, 0, none⟩ 1 1 [.int .u32 (wv (leW cst j))] rfl rfl ?c1 ?c2 ?c3 ?c4 ?c5 ?_)
      try case c1 => exact one_cellCh (wr.drewN kk) _ _
      try case c2 => first | rfl | (intro u hu; rw [List.mem_singleton.1 hu]; rfl)
      try case c3 => unfold maxLen; omega
      try case c4 => omega
      try case c5 => rw [World.size_alloc]; exact Nat.le_succ_of_le hsz
      intro v' w' h1 h2 h3
      go_wp2_with fail
      go_roundw
      case rel =>
        refine ⟨j + 1, by omega, by simp; omega, ?_, ?_⟩
        · rw [List.range_succ, List.map_append]
          unfold wvsCh
          rw [List.map_append]
          exact h1
        · exact below_appCh (wr := wr.drewN kk) ⟨HNX.out.os, HNX.out.tape, HNX.out.output, HNX.out.size, HNX.out.block⟩ _ _ _ _ _ HOWN.out h2
      case measure => simp [intOf]; omega
    · have hj4 : j = 4 := by omega
      have HO1 := HOWN.out
      have HB1 := HNX.out
      rw [hj4] at HO1
      have hge : ¬ (4 * (j : Int) < 16) := by omega
      generalize 4 * (j : Int) = J4 at *
      clear hj4 hjN
      generalize hL1 : (List.range 4).map (leW cst) = L1 at HO1
      have HL1 := Lib.hid hL1
      clear HOWN HNX hL1
      go_wp2_with fail
      go_loopw [7, 9] (fun v i wr => ∃ j : Nat, j ≤ 8 ∧ i = .int .i64 (4 * (j : Int)) ∧ wr.ownsRow w.heap.size 22 1 v (4 + j) (wvsCh (L1 ++ (List.range j).map (leW k))) ∧ Below w.heap.size w wr) (fun _ i _ => 32 - (intOf i).toNat)
      case atStart => exact ⟨0, by omega, rfl, by simpa using HO1, HB1⟩
      case round =>
        obtain ⟨j, hj, rfl, hown, hnx⟩ := hrel
        have HOWN := Lib.hid hown
        have HNX := Lib.hid hnx
        clear hown hnx HO1 HB1
        by_cases hjN : j < 8
        · go_wp2_with fail
          skip
          refine (word_any k j (by rw [HK.out]; omega) (by omega) wr).mono ?_
          rintro e w2 ⟨rfl, kk, rfl⟩
          have hown2 : ((wr.drewN kk).alloc (.cells #[.int .u32 (wv (leW k j))] 22 (0, 0))).ownsRow w.heap.size 22 1 u7 (4 + j) (wvsCh (L1 ++ (List.range j).map (leW k))) := HOWN.out.alloc _
          have HOWN2 := Lib.hid hown2
          have hsz := HNX.out.size
          clear hown2
          go_wp2_with (at_builtin; refine wpList_append_own _ rfl (.tmp 30) (.tmp 34) 25 rfl w.heap.size 22 i0 (.int .u32 0) 1 4 Try.underlying25 hi hz0 hz1 hz2 rfl (by decide) _ _ _ rfl HOWN2.out ⟨wr.heap.size, 0, none⟩ 1 1 [.int .u32 (wv (leW k j))] rfl rfl ?c1 ?c2 ?c3 ?c4 ?c5 ?_)
          try case c1 => exact one_cellCh (wr.drewN kk) _ _
          try case c2 => first | rfl | (intro u hu; rw [List.mem_singleton.1 hu]; rfl)
          try case c3 => unfold maxLen; omega
          try case c4 => omega
          try case c5 => rw [World.size_alloc]; exact Nat.le_succ_of_le hsz
          intro v' w' h1 h2 h3
          go_wp2_with fail
          go_roundw
          case rel =>
            refine ⟨j + 1, by omega, by simp; omega, ?_, ?_⟩
            · rw [List.range_succ, List.map_append, ← List.append_assoc]
              unfold wvsCh
              rw [List.map_append]
              exact h1
            · exact below_appCh (wr := wr.drewN kk) ⟨HNX.out.os, HNX.out.tape, HNX.out.output, HNX.out.size, HNX.out.block⟩ _ _ _ _ _ HOWN.out h2
          case measure => simp [intOf]; omega
        · have hj8' : j = 8 := by omega
          have HO2 := HOWN.out
          have HB2 := Lib.hid HNX.out
          have hsz := HNX.out.size
          rw [hj8'] at HO2
          generalize hL2 : L1 ++ (List.range 8).map (leW k) = L2 at HO2
          have HL2 := Lib.hid hL2
          clear hL2
          have HOA := Lib.hid (show (wr.alloc (.cells #[.int .u32 (wv c)] 22 (0, 0))).ownsRow w.heap.size 22 1 u7 12 (wvsCh L2) from HO2.alloc _)
          have HO2' := Lib.hid HO2
          have hge : ¬ (4 * (j : Int) < 32) := by omega
          generalize 4 * (j : Int) = J8 at *
          clear HO2 hj8' hjN HOWN HNX
          go_wp2_with (at_builtin; refine wpList_append_own _ rfl (.tmp 36) (.tmp 38) 25 rfl w.heap.size 22 i0 (.int .u32 0) 1 4 Try.underlying25 hi hz0 hz1 hz2 rfl (by decide) _ _ _ rfl HOA.out ⟨wr.heap.size, 0, none⟩ 1 1 [.int .u32 (wv c)] rfl rfl (one_cellCh wr _ _) (one_oneCh _ rfl) (by decide) (by decide) (le_allocCh hsz _) ?_)
          intro v3 w3 h1 h2 h3
          have HB3 := below_appCh HB2.out _ _ _ _ _ HO2'.out h2
          have HO3 : w3.ownsRow w.heap.size 22 1 v3 13 (wvsCh (L2 ++ [c])) := by
            unfold wvsCh
            rw [List.map_append]
            exact h1
          generalize hL3 : L2 ++ [c] = L3 at HO3
          have HL3 := Lib.hid hL3
          clear hL3 h1 h2 h3 HB2 HO2' HOA hsz
          go_wp2_with fail
          go_loopw [7, 10] (fun v i wr => ∃ j : Nat, j ≤ 3 ∧ i = .int .i64 (4 * (j : Int)) ∧ wr.ownsRow w.heap.size 22 1 v (13 + j) (wvsCh (L3 ++ (List.range j).map (leW n))) ∧ Below w.heap.size w wr) (fun _ i _ => 12 - (intOf i).toNat)
          case atStart => exact ⟨0, by omega, rfl, by simpa using HO3, HB3⟩
          case round =>
            obtain ⟨j, hj, rfl, hown, hnx⟩ := hrel
            have HOWN := Lib.hid hown
            have HNX := Lib.hid hnx
            clear hown hnx HO3 HB3
            by_cases hjN : j < 3
            · go_wp2_with fail
              skip
              refine (word_any n j (by rw [HN.out]; omega) (by omega) wr).mono ?_
              rintro e w2 ⟨rfl, kk, rfl⟩
              have hown2 : ((wr.drewN kk).alloc (.cells #[.int .u32 (wv (leW n j))] 22 (0, 0))).ownsRow w.heap.size 22 1 u7 (13 + j) (wvsCh (L3 ++ (List.range j).map (leW n))) := HOWN.out.alloc _
              have HOWN2 := Lib.hid hown2
              have hsz := HNX.out.size
              clear hown2
              go_wp2_with (at_builtin; refine wpList_append_own _ rfl (.tmp 44) (.tmp 48) 25 rfl w.heap.size 22 i0 (.int .u32 0) 1 4 Try.underlying25 hi hz0 hz1 hz2 rfl (by decide) _ _ _ rfl HOWN2.out ⟨wr.heap.size, 0, none⟩ 1 1 [.int .u32 (wv (leW n j))] rfl rfl ?c1 ?c2 ?c3 ?c4 ?c5 ?_)
              try case c1 => exact one_cellCh (wr.drewN kk) _ _
              try case c2 => first | rfl | (intro u hu; rw [List.mem_singleton.1 hu]; rfl)
              try case c3 => unfold maxLen; omega
              try case c4 => omega
              try case c5 => rw [World.size_alloc]; exact Nat.le_succ_of_le hsz
              intro v' w' h1 h2 h3
              go_wp2_with fail
              go_roundw
              case rel =>
                refine ⟨j + 1, by omega, by simp; omega, ?_, ?_⟩
                · rw [List.range_succ, List.map_append, ← List.append_assoc]
                  unfold wvsCh
                  rw [List.map_append]
                  exact h1
                · exact below_appCh (wr := wr.drewN kk) ⟨HNX.out.os, HNX.out.tape, HNX.out.output, HNX.out.size, HNX.out.block⟩ _ _ _ _ _ HOWN.out h2
              case measure => simp [intOf]; omega
            · have hj3 : j = 3 := by omega
              have HO4 := HOWN.out
              have HB4 := Lib.hid HNX.out
              have hsz := HNX.out.size
              rw [hj3] at HO4
              have HS4 : L3 ++ (List.range 3).map (leW n) = (iw k n c).toList := by
                rw [← HL3.out, ← HL2.out, ← HL1.out]
                exact iw_words k n c
              rw [HS4] at HO4
              have hge : ¬ (4 * (j : Int) < 12) := by omega
              generalize 4 * (j : Int) = J12 at *
              have hSz := size_iw k n c
              generalize hI : iw k n c = S at HO4 hSz
              have HIW := Lib.hid hI
              have HS := Lib.hid hSz
              obtain ⟨gv, cap, rfl, hgv1, hgv2⟩ := HO4.form (by decide)
              have HO5 := Lib.hid HO4
              clear HO4 hj3 hjN HOWN HNX hI hSz HS4 HL1 HL2 HL3
              have hmk := fun w' h1 h2 => rst_start (w' := w') HS.out HB4.out HO5.out h1 h2
              have HMK := Lib.hid hmk
              have HM1 := Lib.hid (show i0.bytes * 16 ≤ 281474976710656 by rw [hz2]; decide)
              clear hmk
              go_wp2_with (with_reducible refine wpList_make_full _ rfl (.const (.int .i64 16)) (.const (.int .i64 16)) 25 rfl w.heap.size 22 i0 (.int .u32 0) 1 Try.underlying25 hi hz0 hz1 .i64 .i64 16 16 16 rfl rfl rfl rfl HM1.out (by decide) hsz ?_)
              intro w5 h1 h2
              obtain ⟨cur, st⟩ := HMK.out w5 h2 h1
              clear HMK HO5 HB4 h1 h2 hsz
              generalize wr.heap.size = g at st ⊢
              go_wp2_with fail
              go_loopw [12] (fun i wr => ∃ j : Nat, j ≤ 16 ∧ i = .int .i64 j ∧ RStCh w.heap.size gv g w S (cp S j) cur wr) (fun i _ => 16 - (intOf i).toNat)
              case atStart => exact ⟨0, by omega, rfl, st⟩
              case round =>
                obtain ⟨j, hj, rfl, st0⟩ := hrel
                clear st
                by_cases hjN : j < 16
                · have jn : (0 : Int) ≤ j := by omega
                  have ji : (j : Int) < 16 := by omega
                  have c1 := st0.word j hjN
                  have c2 := st0.turned (size_cp S j) j hjN
                  have f2 := frozen_of_row _ g j _ _ st0.rg
                  generalize hsj : S.getD j 0 = sj at c1
                  have HSJ := Lib.hid hsj
                  clear hsj
                  go_wp2_with fail
                  have st1 := st0.set j sj
                  generalize World.setCell _ _ _ = wn at st1 ⊢
                  clear c1 c2 f2 st0
                  go_wp2_with fail
                  go_roundw
                  case rel => exact ⟨j + 1, by omega, by go_num, by rw [cp, HSJ.out]; exact st1⟩
                  case measure => simp [intOf]; omega
                · have st5 : RStCh w.heap.size gv g w S (drs 0 S) cur wr := by
                    have hj16 : j = 16 := by omega
                    have := st0
                    rw [hj16, cp_all S HS.out] at this
                    exact this
                  have hge : ¬ ((j : Int) < 16) := by omega
                  clear st0 hjN
                  go_wp2_with fail
                  go_loopw [13] (fun i wr => ∃ r : Nat, r ≤ 10 ∧ i = .int .i64 r ∧ RStCh w.heap.size gv g w S (drs r S) cur wr) (fun i _ => 10 - (intOf i).toNat)
                  case atStart => exact ⟨0, by omega, rfl, st5⟩
                  case round =>
                    obtain ⟨r, hr, rfl, st0⟩ := hrel
                    have ht := (size_drs r S).trans HS.out
                    generalize hT : drs r S = t0 at st0 ht
                    have HT := Lib.hid hT
                    have HS0 := Lib.hid ht
                    clear hT ht st5
                    by_cases hrN : r < 10
                    · have ri : (r : Int) < 10 := Int.ofNat_lt.2 hrN
                      go_wp2_with fail
                      refine (rq16 g 16 22 0 4 8 12 t0 _ HS0.out (by decide) st0.rg).mono ?_
                      rintro e w10 ⟨rfl, hg, hr⟩
                      have st1 := st0.step hg hr
                      have HS1 := Lib.hid ((size_qr t0 0 4 8 12).trans HS0.out)
                      clear hg hr st0
                      generalize hq0 : qr t0 0 4 8 12 = t1 at st1 HS1
                      have HQ0 := Lib.hid hq0
                      clear hq0
                      go_wp2_with fail
                      refine (rq16 g 16 22 1 5 9 13 t1 _ HS1.out (by decide) st1.rg).mono ?_
                      rintro e w11 ⟨rfl, hg, hr⟩
                      have st2 := st1.step hg hr
                      have HS2 := Lib.hid ((size_qr t1 1 5 9 13).trans HS1.out)
                      clear hg hr st1
                      generalize hq1 : qr t1 1 5 9 13 = t2 at st2 HS2
                      have HQ1 := Lib.hid hq1
                      clear hq1
                      go_wp2_with fail
                      refine (rq16 g 16 22 2 6 10 14 t2 _ HS2.out (by decide) st2.rg).mono ?_
                      rintro e w12 ⟨rfl, hg, hr⟩
                      have st3 := st2.step hg hr
                      have HS3 := Lib.hid ((size_qr t2 2 6 10 14).trans HS2.out)
                      clear hg hr st2
                      generalize hq2 : qr t2 2 6 10 14 = t3 at st3 HS3
                      have HQ2 := Lib.hid hq2
                      clear hq2
                      go_wp2_with fail
                      refine (rq16 g 16 22 3 7 11 15 t3 _ HS3.out (by decide) st3.rg).mono ?_
                      rintro e w13 ⟨rfl, hg, hr⟩
                      have st4 := st3.step hg hr
                      have HS4 := Lib.hid ((size_qr t3 3 7 11 15).trans HS3.out)
                      clear hg hr st3
                      generalize hq3 : qr t3 3 7 11 15 = t4 at st4 HS4
                      have HQ3 := Lib.hid hq3
                      clear hq3
                      go_wp2_with fail
                      refine (rq16 g 16 22 0 5 10 15 t4 _ HS4.out (by decide) st4.rg).mono ?_
                      rintro e w14 ⟨rfl, hg, hr⟩
                      have st5 := st4.step hg hr
                      have HS5 := Lib.hid ((size_qr t4 0 5 10 15).trans HS4.out)
                      clear hg hr st4
                      generalize hq4 : qr t4 0 5 10 15 = t5 at st5 HS5
                      have HQ4 := Lib.hid hq4
                      clear hq4
                      go_wp2_with fail
                      refine (rq16 g 16 22 1 6 11 12 t5 _ HS5.out (by decide) st5.rg).mono ?_
                      rintro e w15 ⟨rfl, hg, hr⟩
                      have st6 := st5.step hg hr
                      have HS6 := Lib.hid ((size_qr t5 1 6 11 12).trans HS5.out)
                      clear hg hr st5
                      generalize hq5 : qr t5 1 6 11 12 = t6 at st6 HS6
                      have HQ5 := Lib.hid hq5
                      clear hq5
                      go_wp2_with fail
                      refine (rq16 g 16 22 2 7 8 13 t6 _ HS6.out (by decide) st6.rg).mono ?_
                      rintro e w16 ⟨rfl, hg, hr⟩
                      have st7 := st6.step hg hr
                      have HS7 := Lib.hid ((size_qr t6 2 7 8 13).trans HS6.out)
                      clear hg hr st6
                      generalize hq6 : qr t6 2 7 8 13 = t7 at st7 HS7
                      have HQ6 := Lib.hid hq6
                      clear hq6
                      go_wp2_with fail
                      refine (rq16 g 16 22 3 4 9 14 t7 _ HS7.out (by decide) st7.rg).mono ?_
                      rintro e w17 ⟨rfl, hg, hr⟩
                      have st8 := st7.step hg hr
                      have HS8 := Lib.hid ((size_qr t7 3 4 9 14).trans HS7.out)
                      clear hg hr st7
                      generalize hq7 : qr t7 3 4 9 14 = t8 at st8 HS8
                      have HQ7 := Lib.hid hq7
                      clear hq7
                      go_wp2_with fail
                      go_roundw
                      case rel =>
                        refine ⟨r + 1, by omega, by go_num, ?_⟩
                        rw [drs, HT.out, dr, HQ0.out, HQ1.out, HQ2.out, HQ3.out, HQ4.out, HQ5.out, HQ6.out, HQ7.out]
                        exact st8
                      case measure => simp [intOf]; omega
                    · have hr10 : r = 10 := by omega
                      have HT10 := Lib.hid (show drs 10 S = t0 by rw [← hr10]; exact HT.out)
                      have hge : ¬ ((r : Int) < 10) := by omega
                      clear HT hrN hr10
                      have HST := Lib.hid st0
                      clear st0
                      go_wp2_with fail
                      go_loopw [14, 15] (fun v i wr' => ∃ j : Nat, j ≤ 16 ∧ i = .int .i64 j ∧ wr'.ownsRow wr.heap.size 5 1 v (4 * j) (blv (zz t0 S) j) ∧ Below wr.heap.size wr wr') (fun _ i _ => 16 - (intOf i).toNat)
                      case atStart => exact ⟨0, by omega, rfl, ⟨rfl, .inl ⟨rfl, rfl⟩⟩, Below.refl _ _⟩
                      case round =>
                        obtain ⟨j, hj, rfl, hown, hbb⟩ := hrel
                        have HOWN := Lib.hid hown
                        have HBB := Lib.hid hbb
                        have st := HST.out.carry HST.out.bel.size (Array.getElem?_eq_some_iff.1 HST.out.rv).1 (Array.getElem?_eq_some_iff.1 HST.out.rg).1 hbb
                        clear hown hbb
                        by_cases hjN : j < 16
                        · have jn : (0 : Int) ≤ j := Int.natCast_nonneg j
                          have ji : (j : Int) < 16 := Int.ofNat_lt.2 hjN
                          have c1 := st.word j hjN
                          have c2 := st.turned HS0.out j hjN
                          clear st
                          generalize hsj : S.getD j 0 = sj at c1
                          generalize htj : t0.getD j 0 = tj at c2
                          have HZ := Lib.hid (show zz t0 S j = tj + sj by rw [← hsj, ← htj]; rfl)
                          clear hsj htj
                          go_wp2_with fail
                          go_quiet (fail)
                          have hx : (wv tj + wv sj) % 4294967296 = wv (tj + sj) := w_add tj sj
                          rw [hx]
                          generalize hxx : tj + sj = x at HZ
                          have hsq := HBB.out.size
                          have HBQ := Lib.hid (show Below _ _ (wr.drewN nq) from ⟨HBB.out.os, HBB.out.tape, HBB.out.output, HBB.out.size, HBB.out.block⟩)
                          have HOQ := Lib.hid (show (wr.drewN nq).ownsRow _ _ _ _ _ _ from HOWN.out)
                          have hs0 : _ ≤ (wr.drewN nq).heap.size := hsq
                          generalize wr.drewN nq = wq at HBQ HOQ hs0 ⊢
                          clear hx hxx hsq c1 c2
                          have HA0 := Lib.hid (HOQ.out.alloc (.cells #[ob x 0] 5 (0, 0)))
                          have HM0 := Lib.hid (show 4 * j + 1 ≤ maxLen by unfold maxLen; omega)
                          have HN0 := Lib.hid (show (4 * j + 1) * 1 ≤ 140737488355328 by omega)
                          go_wp2_with (at_builtin; refine wpList_append_own _ rfl (.tmp 95) (.tmp 98) 37 rfl _ 5 i8 (.int .u8 0) 1 1 Try.underlying37 hj0 hy0 hy1 hy2 rfl (by decide) _ _ _ rfl HA0.out ⟨wq.heap.size, 0, none⟩ 1 1 [ob x 0] rfl rfl (one_cellCh wq _ _) (one_oneCh _ rfl) HM0.out HN0.out (le_allocCh hs0 _) ?_)
                          intro v1a w1a h1 h2 h3
                          have HB1a := Lib.hid (below_appCh HBQ.out _ _ _ _ _ HOQ.out h2)
                          have HO1a := Lib.hid h1
                          have hs1 := HB1a.out.size
                          clear h1 h2 h3 hs0
                          have HA1 := Lib.hid (HO1a.out.alloc (.cells #[ob x 1] 5 (0, 0)))
                          have HM1 := Lib.hid (show 4 * j + 1 + 1 ≤ maxLen by unfold maxLen; omega)
                          have HN1 := Lib.hid (show (4 * j + 1 + 1) * 1 ≤ 140737488355328 by omega)
                          go_wp2_with (at_builtin; refine wpList_append_own _ rfl (.tmp 99) (.tmp 103) 37 rfl _ 5 i8 (.int .u8 0) 1 1 Try.underlying37 hj0 hy0 hy1 hy2 rfl (by decide) _ _ _ rfl HA1.out ⟨w1a.heap.size, 0, none⟩ 1 1 [ob x 1] rfl rfl (one_cellCh w1a _ _) (one_oneCh _ rfl) HM1.out HN1.out (le_allocCh hs1 _) ?_)
                          intro v2a w2a h1 h2 h3
                          have HB2a := Lib.hid (below_appCh HB1a.out _ _ _ _ _ HO1a.out h2)
                          have HO2a := Lib.hid h1
                          have hs2 := HB2a.out.size
                          clear h1 h2 h3 hs1
                          have HA2 := Lib.hid (HO2a.out.alloc (.cells #[ob x 2] 5 (0, 0)))
                          have HM2 := Lib.hid (show 4 * j + 1 + 1 + 1 ≤ maxLen by unfold maxLen; omega)
                          have HN2 := Lib.hid (show (4 * j + 1 + 1 + 1) * 1 ≤ 140737488355328 by omega)
                          go_wp2_with (at_builtin; refine wpList_append_own _ rfl (.tmp 104) (.tmp 108) 37 rfl _ 5 i8 (.int .u8 0) 1 1 Try.underlying37 hj0 hy0 hy1 hy2 rfl (by decide) _ _ _ rfl HA2.out ⟨w2a.heap.size, 0, none⟩ 1 1 [ob x 2] rfl rfl (one_cellCh w2a _ _) (one_oneCh _ rfl) HM2.out HN2.out (le_allocCh hs2 _) ?_)
                          intro v3a w3a h1 h2 h3
                          have HB3a := Lib.hid (below_appCh HB2a.out _ _ _ _ _ HO2a.out h2)
                          have HO3a := Lib.hid h1
                          have hs3 := HB3a.out.size
                          clear h1 h2 h3 hs2
                          have HA3 := Lib.hid (HO3a.out.alloc (.cells #[ob x 3] 5 (0, 0)))
                          have HM3 := Lib.hid (show 4 * j + 1 + 1 + 1 + 1 ≤ maxLen by unfold maxLen; omega)
                          have HN3 := Lib.hid (show (4 * j + 1 + 1 + 1 + 1) * 1 ≤ 140737488355328 by omega)
                          go_wp2_with (at_builtin; refine wpList_append_own _ rfl (.tmp 109) (.tmp 113) 37 rfl _ 5 i8 (.int .u8 0) 1 1 Try.underlying37 hj0 hy0 hy1 hy2 rfl (by decide) _ _ _ rfl HA3.out ⟨w3a.heap.size, 0, none⟩ 1 1 [ob x 3] rfl rfl (one_cellCh w3a _ _) (one_oneCh _ rfl) HM3.out HN3.out (le_allocCh hs3 _) ?_)
                          intro v4a w4a h1 h2 h3
                          have HB4a := Lib.hid (below_appCh HB3a.out _ _ _ _ _ HO3a.out h2)
                          have HO4a := Lib.hid h1
                          have hs4 := HB4a.out.size
                          clear h1 h2 h3 hs3
                          go_wp2_with fail
                          go_roundw
                          case rel =>
                            refine ⟨j + 1, by omega, by go_num, ?_, HB4a.out⟩
                            have := HO4a.out
                            rw [blv, HZ.out, show 4 * (j + 1) = 4 * j + 1 + 1 + 1 + 1 by omega]
                            simpa only [List.append_assoc, List.cons_append, List.nil_append] using this
                          case measure => simp [intOf]; omega
                        · have ji : ¬ ((j : Int) < 16) := by omega
                          have hj16 : j = 16 := by omega
                          have HO6 := HOWN.out
                          rw [hj16, blv_bl] at HO6
                          obtain ⟨go, capo, rfl, _, _⟩ := HO6.form (by decide)
                          have hcv := conv_outCh (bl (zz t0 S) 16) (4 * 16) (length_bl _ _) HO6
                          have hbl : bs (bl (zz t0 S) 16) = blkB (iw k n c) := by
                            rw [HIW.out, ← HT10.out]
                            exact bs_bl S
                          rw [hbl] at hcv
                          have HF := Lib.hid (HST.out.bel.trans (HBB.out.mono HST.out.bel.size))
                          clear HO6 hj16 hjN HOWN HBB st hbl
                          go_wp2_with fail
                          go_ret
                          exact ⟨rfl, HF.out⟩
end Go.Proofs.Ytkfacnegfkgcgaa

/-
  What is turned by the stream: plain lemmas.
-/
namespace Go.Proofs.Ytkfacnegfkgcgaa
open Go.RowKit MS

/-- Byte i of the stream that begins with block c. -/
def ks (k n : ByteArray) (c : W32) (i : Nat) : UInt8 := (ls (blkB (iw k n (c + BitVec.ofNat 32 (i / 64))))).getD (i % 64) 0
/-- The first p bytes are turned. -/
def mixlCh (l : List UInt8) (f : Nat → UInt8) (p : Nat) : List UInt8 := (List.range l.length).map fun i => if i < p then l.getD i 0 ^^^ f i else l.getD i 0
def trn (l : List UInt8) (f : Nat → UInt8) : List UInt8 := (List.range l.length).map fun i => l.getD i 0 ^^^ f i
theorem length_mixlCh (l : List UInt8) (f : Nat → UInt8) (p : Nat) : (mixlCh l f p).length = l.length := by simp [mixlCh]
theorem length_trn (l : List UInt8) (f : Nat → UInt8) : (trn l f).length = l.length := by simp [trn]
theorem mixl_zeroCh (l : List UInt8) (f : Nat → UInt8) : mixlCh l f 0 = l := by
  apply List.ext_getElem?
  intro i
  by_cases h : i < l.length
  · simp [mixlCh, h]
  · simp [mixlCh, h]
theorem mixl_all (l : List UInt8) (f : Nat → UInt8) (p : Nat) (hp : l.length ≤ p) : mixlCh l f p = trn l f := by
  unfold mixlCh trn
  apply List.map_congr_left
  intro i hi
  rw [if_pos (Nat.lt_of_lt_of_le (List.mem_range.1 hi) hp)]
theorem mixl_getCh (l : List UInt8) (f : Nat → UInt8) (p i : Nat) (h : i < l.length) : (mixlCh l f p)[i]? = some (if i < p then l.getD i 0 ^^^ f i else l.getD i 0) := by
  simp [mixlCh, h]
theorem mixl_stepCh (l : List UInt8) (f : Nat → UInt8) (p : Nat) (hp : p < l.length) : (mixlCh l f p).set p (l.getD p 0 ^^^ f p) = mixlCh l f (p + 1) := by
  apply List.ext_getElem?
  intro i
  rw [List.getElem?_set, length_mixlCh]
  by_cases h : i < l.length
  · rw [mixl_getCh _ _ _ _ h, mixl_getCh _ _ _ _ h]
    by_cases e : p = i
    · subst e
      rw [if_pos rfl, if_pos hp, if_pos (Nat.lt_succ_self p)]
    · rw [if_neg e]
      congr 1
      by_cases h2 : i < p
      · rw [if_pos h2, if_pos (by omega)]
      · rw [if_neg h2, if_neg (by omega)]
  · rw [if_neg (by omega), List.getElem?_eq_none (by rw [length_mixlCh]; omega), List.getElem?_eq_none (by rw [length_mixlCh]; omega)]

theorem iw_list (k n : ByteArray) : ∃ A B : List W32, A.length = 12 ∧ ∀ c, (iw k n c).toList = A ++ c :: B := by
  refine ⟨(List.range 4).map (leW cst) ++ (List.range 8).map (leW k), (List.range 3).map (leW n), by simp, fun c => ?_⟩
  rw [← iw_words]
  simp only [List.append_assoc, List.cons_append, List.nil_append]
theorem iw_set (k n : ByteArray) (c c' : W32) : (iw k n c).setIfInBounds 12 c' = iw k n c' := by
  obtain ⟨A, B, hA, h⟩ := iw_list k n
  apply Array.toList_inj.1
  rw [Array.toList_setIfInBounds, h, h, ← hA]
  simp
theorem iw_get (k n : ByteArray) (c : W32) : (iw k n c).getD 12 0 = c := by
  obtain ⟨A, B, hA, h⟩ := iw_list k n
  rw [Array.getD_eq_getD_getElem?, ← Array.getElem?_toList, h, ← hA]
  simp

theorem iw_cell (k n : ByteArray) (c : W32) : (rowWCh (iw k n c))[12]? = some (.int .u32 (wv c)) := by
  obtain ⟨A, B, hA, h⟩ := iw_list k n
  rw [rowWCh, Array.getElem?_map, ← Array.getElem?_toList, h, ← hA]
  simp
theorem b_xor (x y : UInt8) : bits .xor .u8 (x.toNat : Int) (y.toNat : Int) = ((x ^^^ y).toNat : Int) := by
  rw [u8_xor_nat _ _ x.toNat_lt y.toNat_lt, UInt8.toNat_xor]

/-- The bytes' row. -/
def orw (l : List UInt8) (cap : Nat) : Array Value := (l.map valBCh).toArray ++ Array.replicate (cap - l.length) (.int .u8 0)
theorem orw_get (l : List UInt8) (cap i : Nat) (h : i < l.length) : (orw l cap)[i]? = some (valBCh (l.getD i 0)) := by
  simp [orw, Array.getElem?_append, h]
theorem orw_set (l : List UInt8) (cap i : Nat) (x : UInt8) (h : i < l.length) : (orw l cap).setIfInBounds i (valBCh x) = orw (l.set i x) cap := by
  apply Array.toList_inj.1
  simp [orw, h, List.map_set]

structure TStCh (B O cap fz : Nat) (w0 : World) (I : Array W32) (l : List UInt8) (w : World) : Prop where
  ne : B ≠ O
  geB : w0.heap.size ≤ B
  geO : w0.heap.size ≤ O
  rs : w.heap[B]? = some (.cells (rowWCh I) 53 (0, 0))
  ro : w.heap[O]? = some (.cells (orw l cap) 5 (fz, fz + 1))
  fzl : l.length ≤ fz
  bel : Below w0.heap.size w0 w
theorem TStCh.carry {B O cap fz : Nat} {w0 w w' : World} {I : Array W32} {l : List UInt8} (h : TStCh B O cap fz w0 I l w) (hb : Below w.heap.size w w') : TStCh B O cap fz w0 I l w' :=
  ⟨h.ne, h.geB, h.geO, (hb.block B (Array.getElem?_eq_some_iff.1 h.rs).1).trans h.rs, (hb.block O (Array.getElem?_eq_some_iff.1 h.ro).1).trans h.ro, h.fzl, h.bel.trans (hb.mono h.bel.size)⟩
theorem TStCh.put {B O cap fz : Nat} {w0 w : World} {I : Array W32} {l : List UInt8} (h : TStCh B O cap fz w0 I l w) (i : Nat) (hi : i < l.length) (x : UInt8) : TStCh B O cap fz w0 I (l.set i x) (w.setCell ⟨O, i, none⟩ (valBCh x)) := by
  refine ⟨h.ne, h.geB, h.geO, ?_, ?_, by simpa using h.fzl, h.bel.setCell h.geO _⟩
  · rw [heap_setCell_other _ _ _ _ (by simpa using h.ne)]; exact h.rs
  · rw [setCell_eq_setRow w O i (orw l cap) _ _ _ h.ro, setRow_heap w O _ _ _ _ h.ro, orw_set _ _ _ _ hi]
theorem TStCh.count {B O cap fz : Nat} {w0 w : World} {I : Array W32} {l : List UInt8} (h : TStCh B O cap fz w0 I l w) (x : W32) : TStCh B O cap fz w0 (I.setIfInBounds 12 x) l (w.setCell ⟨B, 12, none⟩ (.int .u32 (wv x))) := by
  refine ⟨h.ne, h.geB, h.geO, ?_, ?_, h.fzl, h.bel.setCell h.geB _⟩
  · rw [heap_setCell_same w B 12 (rowWCh I) _ _ h.rs, rowW_setCh]
  · rw [heap_setCell_other _ _ _ _ (by simpa using Ne.symm h.ne)]; exact h.ro
theorem TStCh.byte {B O cap fz : Nat} {w0 w : World} {I : Array W32} {l : List UInt8} (h : TStCh B O cap fz w0 I l w) (i : Nat) (hi : i < l.length) : w.cell? ⟨O, i, none⟩ = some (.int .u8 ((l.getD i 0).toNat : Int)) := by
  rw [cell_of_row w O i _ _ _ h.ro, orw_get _ _ _ hi]
  rfl
theorem TStCh.free {B O cap fz : Nat} {w0 w : World} {I : Array W32} {l : List UInt8} (h : TStCh B O cap fz w0 I l w) (i : Nat) (hi : i < l.length) : w.frozen? ⟨O, i, none⟩ = false := by
  have := h.fzl
  simp [World.frozen?, h.ro]
  omega

theorem w_succ (x : W32) : (wv x + 1) % 4294967296 = wv (x + 1) := w_add x 1
def sliceLenCh : Value → Nat
  | .slice _ n _ => n
  | _ => 0
theorem bytesRow_orw (s : ByteArray) (cap : Nat) : bytesRow s cap = orw (ls s) cap := by
  apply Array.toList_inj.1
  simp [bytesRow, orw, ls, valBCh]
theorem size_orw (l : List UInt8) (cap : Nat) : l.length ≤ (orw l cap).size := by simp [orw]
theorem tst_start {w w1 : World} (hb : Below w.heap.size w w1) (I : Array W32) (s : ByteArray) (cap : Nat) :
    TStCh w1.heap.size (w1.heap.size + 1) cap (bytesRow s cap).size w I (ls s) (((w1.alloc (.cells #[.int .u32 0, .int .u32 0, .int .u32 0, .int .u32 0, .int .u32 0, .int .u32 0, .int .u32 0, .int .u32 0, .int .u32 0, .int .u32 0, .int .u32 0, .int .u32 0, .int .u32 0, .int .u32 0, .int .u32 0, .int .u32 0] 53 (0, 0))).setRow w1.heap.size (rowWCh I)).alloc (.cells (bytesRow s cap) 5 ((bytesRow s cap).size, (bytesRow s cap).size + 1))).drew := by
  have hz : (#[.int .u32 0, .int .u32 0, .int .u32 0, .int .u32 0, .int .u32 0, .int .u32 0, .int .u32 0, .int .u32 0, .int .u32 0, .int .u32 0, .int .u32 0, .int .u32 0, .int .u32 0, .int .u32 0, .int .u32 0, .int .u32 0] : Array Value) = Array.replicate 16 (.int .u32 0) := rfl
  rw [hz, bytesRow_orw]
  have hfz := size_orw (ls s) cap
  generalize (orw (ls s) cap).size = fz at *
  have h0 := (MapKept.heap_alloc w1 (.cells (Array.replicate 16 (.int .u32 0)) 53 (0, 0))).1
  have h1 := setRow_heap _ _ _ (rowWCh I) _ _ h0
  have hs : ((w1.alloc (.cells (Array.replicate 16 (.int .u32 0)) 53 (0, 0))).setRow w1.heap.size (rowWCh I)).heap.size = w1.heap.size + 1 := by simp
  have b1 := below_setRowCh (below_alloc hb (.cells (Array.replicate 16 (.int .u32 0)) 53 (0, 0))) (g := w1.heap.size) hb.size (rowWCh I)
  generalize ((w1.alloc (.cells (Array.replicate 16 (.int .u32 0)) 53 (0, 0))).setRow w1.heap.size (rowWCh I)) = w2 at *
  have h2 := (MapKept.heap_alloc w2 (.cells (orw (ls s) cap) 5 (fz, fz + 1))).1
  have h3 := ((MapKept.heap_alloc w2 (.cells (orw (ls s) cap) 5 (fz, fz + 1))).2 w1.heap.size (by omega)).trans h1
  rw [hs] at h2
  have hz1 := hb.size
  exact ⟨by omega, hz1, by omega, h3, h2, hfz, (below_alloc b1 _).drew⟩
theorem tst_block {B O cap fz : Nat} {w0 w w2 : World} {I : Array W32} {l : List UInt8} (h : TStCh B O cap fz w0 I l w) (hb : Below w.heap.size w w2) (X : Obj) (cs : Array Value) :
    TStCh B O cap fz w0 I l ((w2.alloc X).setRow w2.heap.size cs) :=
  h.carry (below_setRowCh (below_alloc hb X) hb.size cs)
theorem TStCh.drewN {B O cap fz : Nat} {w0 w : World} {I : Array W32} {l : List UInt8} (h : TStCh B O cap fz w0 I l w) (k : Nat) : TStCh B O cap fz w0 I l (w.drewN k) :=
  ⟨h.ne, h.geB, h.geO, h.rs, h.ro, h.fzl, ⟨h.bel.os, h.bel.tape, h.bel.output, h.bel.size, h.bel.block⟩⟩
theorem turned_conv {B O cap fz : Nat} {w0 w : World} {I : Array W32} {l : List UInt8} (h : TStCh B O cap fz w0 I l w) (n : Nat) (hn : l.length = n) :
    (convert 37 9 (.slice (some ⟨O, 0, none⟩) n cap)).run Try.prog w = .ok (.string (bs l)) w := by
  refine run_bytes_to_string w 37 9 5 Try.underlying37 Try.underlying5 Try.underlying9 O 0 n cap l hn (fun j hj => ?_)
  rw [Nat.zero_add, h.byte j hj]
  simp [hj]
theorem blk_get (S : Array W32) (j : Nat) (hj : j < 64) : (blk S)[j]? = some (.int .u8 (((ls (blkB S)).getD j 0).toNat : Int)) := by
  have hl : (ls (blkB S)).length = 64 := by
    have := size_orow (zz (drs 10 S) S) 16
    rw [show orow (zz (drs 10 S) S) 16 = blk S from rfl, blk_blkB] at this
    simpa using this
  rw [blk_blkB]
  simp [valBCh, hl, hj]
theorem ks_at (k n : ByteArray) (c : W32) (m j : Nat) (hj : j < 64) : ks k n c (64 * m + j) = (ls (blkB (iw k n (c + BitVec.ofNat 32 m)))).getD j 0 := by
  unfold ks
  rw [show (64 * m + j) / 64 = m by omega, show (64 * m + j) % 64 = j by omega]
theorem count_up (c : W32) (m : Nat) : c + BitVec.ofNat 32 m + 1 = c + BitVec.ofNat 32 (m + 1) := by
  rw [BitVec.add_assoc]
  congr 1
  apply BitVec.eq_of_toNat_eq
  simp [BitVec.toNat_add]
theorem mixl_getDCh (l : List UInt8) (f : Nat → UInt8) (p : Nat) (h : p < l.length) : (mixlCh l f p).getD p 0 = l.getD p 0 := by
  rw [List.getD_eq_getElem?_getD, mixl_getCh _ _ _ _ h, if_neg (Nat.lt_irrefl p)]
  rfl
end Go.Proofs.Ytkfacnegfkgcgaa

/-
  chacha.Turn: the walk.
-/
namespace Go.Proofs.Ytkfacnegfkgcgaa
open Go.RowKit MS

attribute [local go_sem] w_succ b_xor
set_option maxRecDepth 100000 in
set_option maxHeartbeats 1000000 in
theorem turn_yes (k n : ByteArray) (c : W32) (s : ByteArray) (w : World) (hk : k.size = 32) (hn : n.size = 12) :
    Calls Try.prog 23 #[.string k, .string n, .int .u32 (wv c), .string s] w fun e w' => e = .returned (.tuple #[.string (bs (trn (ls s) (ks k n c))), .bool true]) ∧ Below w.heap.size w w' := by
  have H1 := Lib.hid (begin_yes k n c w hk hn)
  have hz := fun c => size_iw k n c
  have HZ := Lib.hid hz
  have HI := Lib.hid (fun c => show (Try.prog.info? 53).map (·.size) = some (rowWCh (iw k n c)).size by rw [size_rowWCh, hz]; kernel_rfl)
  have HO := Lib.hid (fun c => show (rowWCh (iw k n c)).all (·.oneCell') = true by simp [rowWCh, Value.oneCell'])
  have HL := Lib.hid (fun c => show (Array.replicate 16 (Value.int .u32 0)).size = (rowWCh (iw k n c)).size by rw [size_rowWCh, hz]; rfl)
  clear hk hn hz
  go_enter Try.func23, Try.ntmps23
  go_wp2_with fail
  refine H1.out.mono ?_
  rintro e w1 ⟨rfl, hb1⟩
  have HR := Lib.hid ((MapKept.heap_alloc w1 (.cells (Array.replicate 16 (.int .u32 0)) 53 (0, 0))).1)
  have HR' := Lib.hid (setRow_heap _ _ _ (rowWCh (iw k n c)) _ _ HR.out)
  have HB1 := Lib.hid hb1
  clear hb1
  have hcv := fun w => run_bytes_of_string (P := Try.prog) w 9 37 5 s Try.underlying9 Try.underlying37 Try.underlying5
  go_wp2_with (with_reducible refine wpList_store_row rfl 53 (.tmp 10) (.tmp 22) rfl w1.heap.size (rowWCh (iw k n c)) rfl rfl 53 (Array.replicate 16 (.int .u32 0)) ?hg (HI.out c) (HL.out c) (HO.out c) ?_)
  case hg => exact HR.out
  generalize hcap : grownCap _ s.size 0 5 = cap
  have hcp : s.size ≤ cap := by rw [← hcap]; exact grownCap_ge _ _ _ _
  have st := tst_start HB1.out (iw k n c) s cap
  generalize World.drew _ = w3 at st ⊢
  generalize (bytesRow s cap).size = fz at st
  generalize w1.heap.size + 1 = O at st ⊢
  generalize w1.heap.size = B at st ⊢
  have HC := Lib.hid hcp
  clear hcv hcap HR HR' HB1 H1
  have hls : (ls s).length = s.size := rfl
  have HLS := Lib.hid hls
  go_loopw [13] (fun r wr => ∃ m p q cq off : Nat, p + q = s.size ∧ p + cq = cap ∧ (0 < q → p = 64 * m ∧ off = p) ∧ r = .slice (some ⟨O, off, none⟩) q cq ∧ TStCh B O cap fz w (iw k n (c + BitVec.ofNat 32 m)) (mixlCh (ls s) (ks k n c) p) wr) (fun r _ => sliceLenCh r)
  case atStart => exact ⟨0, 0, s.size, cap, 0, by omega, by omega, fun _ => ⟨rfl, rfl⟩, rfl, by rw [mixl_zeroCh, show c + BitVec.ofNat 32 0 = c from BitVec.add_zero c]; exact st⟩
  case round =>
    obtain ⟨m, p, q, cq, off, hpq, hpc, hoff, rfl, st0⟩ := hrel
    have HPQ := Lib.hid hpq
    have HPC := Lib.hid hpc
    have HST := Lib.hid st0
    clear st hls hcp
    by_cases hq : 0 < q
    · obtain ⟨hpm, hof⟩ := hoff hq
      subst hof
      have HPM := Lib.hid hpm
      clear hoff hpm st0 hpq hpc
      have hqi : (0 : Int) < q := Int.ofNat_lt.2 hq
      obtain ⟨sz, hs0, hs1, hs2, hs3⟩ : ∃ sz : Nat, sz ≤ 64 ∧ sz ≤ q ∧ 0 < sz ∧ (if (q : Int) < 64 then (q : Int) else 64) = (sz : Int) := by
        by_cases h : q < 64
        · exact ⟨q, by omega, by omega, by omega, by rw [if_pos (by omega)]⟩
        · exact ⟨64, by omega, by omega, by omega, by rw [if_neg (by omega)]; rfl⟩
      have hI := HI.out (c + BitVec.ofNat 32 m)
      have HII := Lib.hid hI
      have H2 := Lib.hid (fun w => finish_anyCh (iw k n (c + BitVec.ofNat 32 m)) w (HZ.out _))
      clear hI
      generalize hIm : iw k n (c + BitVec.ofNat 32 m) = I at HII H2 HST
      have HIM := Lib.hid hIm
      clear hIm
      go_wp2_with (with_reducible refine wpList_load_row rfl 53 (.tmp 10) rfl B rfl 53 (rowWCh I) (0, 0) _ HST.out.rs Try.underlying53 rfl HII.out ?_)
      refine (H2.out _).mono ?_
      rintro e w4 ⟨rfl, hb4⟩
      have hb64 : (blk I).size = 64 := size_orow _ _
      have HI5 := Lib.hid (show (Try.prog.info? 56).map (·.size) = some (blk I).size by rw [hb64]; kernel_rfl)
      have HO5 := Lib.hid (show (blk I).all (·.oneCell') = true from all_orow _ _)
      have HL5 := Lib.hid (show (Array.replicate 64 (Value.int .u8 0)).size = (blk I).size by rw [hb64]; rfl)
      have hS := (MapKept.heap_alloc w4 (.cells (Array.replicate 64 (.int .u8 0)) 56 (0, 0))).1
      have HS := Lib.hid hS
      have HS' := Lib.hid (setRow_heap _ _ _ (blk I) _ _ hS)
      have st4 := tst_block HST.out hb4 (.cells (Array.replicate 64 (.int .u8 0)) 56 (0, 0)) (blk I)
      have lO : O < w4.heap.size := Nat.lt_of_lt_of_le (Array.getElem?_eq_some_iff.1 HST.out.ro).1 hb4.size
      have lB : B < w4.heap.size := Nat.lt_of_lt_of_le (Array.getElem?_eq_some_iff.1 HST.out.rs).1 hb4.size
      clear hb4 hb64 hS
      have ST4 := Lib.hid st4
      clear st4
      go_wp2_with (with_reducible refine wpList_store_row rfl 56 (.tmp 15) (.tmp 36) rfl w4.heap.size (blk I) rfl rfl 56 (Array.replicate 64 (.int .u8 0)) ?hg3 HI5.out HL5.out HO5.out ?_)
      case hg3 => exact HS.out
      have st5 := ST4.out
      have hE := HS'.out
      generalize hW : World.setRow (World.alloc w4 _) _ _ = w5
      have hW' : World.setRow (World.alloc w4 (.cells (Array.replicate 64 (.int .u8 0)) 56 (0, 0))) w4.heap.size (blk I) = w5 := hW
      rw [hW'] at st5 hE
      have HS3 := Lib.hid (show sz = q ∨ sz = 64 by
        by_cases h : (q : Int) < 64
        · rw [if_pos h] at hs3; omega
        · rw [if_neg h] at hs3; omega)
      clear hs3 ST4 HS HS' HI5 HO5 HL5 H2 HST hW hW'
      generalize w4.heap.size = E at *
      go_loopw [38] (fun i wr => ∃ j : Nat, j ≤ sz ∧ i = .int .i64 j ∧ TStCh B O cap fz w I (mixlCh (ls s) (ks k n c) (off + j)) wr ∧ wr.heap[E]? = some (.cells (blk I) 56 (0, 0))) (fun i _ => sz - (intOf i).toNat)
      case atStart => exact ⟨0, by omega, rfl, st5, hE⟩
      case round =>
        obtain ⟨j, hj, rfl, st6, hE6⟩ := hrel
        clear st5 hE
        by_cases hjs : j < sz
        · have ji : (j : Int) < sz := Int.ofNat_lt.2 hjs
          have jq : (j : Int) < q := Int.ofNat_lt.2 (Nat.lt_of_lt_of_le hjs hs1)
          have j64n := Nat.lt_of_lt_of_le hjs hs0
          have j64 : (j : Int) < 64 := by omega
          have jn : (0 : Int) ≤ j := Int.natCast_nonneg j
          have hlt : off + j < (mixlCh (ls s) (ks k n c) (off + j)).length := by rw [length_mixlCh, HLS.out]; have := HPQ.out; have := Nat.lt_of_lt_of_le hjs hs1; omega
          have c1 := st6.byte (off + j) hlt
          have f1 := st6.free (off + j) hlt
          have c2 := cell_of_row wr E j _ _ _ hE6
          rw [blk_get I j j64n] at c2
          generalize hx1 : (mixlCh (ls s) (ks k n c) (off + j)).getD (off + j) 0 = x1 at c1
          generalize hx2 : (ls (blkB I)).getD j 0 = x2 at c2
          have HX1 := Lib.hid hx1
          have HX2 := Lib.hid hx2
          have HLT := Lib.hid hlt
          clear hx1 hx2 hlt
          go_wp2_with fail
          refine wp_region_draws_tail 9 (by kernel_rfl) (by kernel_rfl) ?_
          simp only [List.take_succ_cons, List.take_zero, List.drop_succ_cons, List.drop_zero]
          repeat (go_big_quiet_step (fail))
          refine wpQuiet_nil ?_
          intro _ hw'
          obtain ⟨kk, hw''⟩ := hw'
          subst hw''
          go_wp2_with fail
          have st7 := (st6.drewN kk).put (off + j) HLT.out (x1 ^^^ x2)
          have hE7 : (World.setCell (wr.drewN kk) ⟨O, off + j, none⟩ (valBCh (x1 ^^^ x2))).heap[E]? = some (.cells (blk I) 56 (0, 0)) := by
            rw [heap_setCell_other _ _ _ _ (by show ¬ E = O; omega)]
            exact hE6
          have hst : (mixlCh (ls s) (ks k n c) (off + j)).set (off + j) (x1 ^^^ x2) = mixlCh (ls s) (ks k n c) (off + (j + 1)) := by
            have hl2 : off + j < (ls s).length := by have := HLT.out; rwa [length_mixlCh] at this
            show _ = mixlCh (ls s) (ks k n c) (off + j + 1)
            rw [← mixl_stepCh _ _ _ hl2, ← HX1.out, mixl_getDCh _ _ _ hl2, ← HX2.out, ← HIM.out, HPM.out, ← ks_at k n c m j j64n]
          have hv : valBCh (x1 ^^^ x2) = Value.int .u8 ((x1.toNat ^^^ x2.toNat : Nat) : Int) := by simp [valBCh]
          rw [hst, hv] at st7
          rw [hv] at hE7
          go_roundw
          case rel => exact ⟨j + 1, by omega, by go_num, st7, hE7⟩
          case measure => simp [intOf]; omega
        · have ji : ¬ ((j : Int) < sz) := by omega
          have hjs' : j = sz := by omega
          rw [hjs'] at st6
          have sq : (sz : Int) ≤ q := by omega
          have sn : (0 : Int) ≤ sz := by omega
          have cb := cell_of_row wr B 12 _ _ _ st6.rs
          have fb := frozen_of_row wr B 12 _ _ st6.rs
          have hI12 : (rowWCh I)[12]? = some (.int .u32 (wv (c + BitVec.ofNat 32 m))) := by
            rw [← HIM.out]
            exact iw_cell _ _ _
          rw [hI12] at cb
          have HS6 := Lib.hid st6
          clear hjs' hjs st6 hE6 lO lB hI12
          go_wp2_with fail
          go_roundw
          case rel =>
            have hpq := HPQ.out
            have hpc := HPC.out
            have hcc := HC.out
            have st8 := HS6.out.count (c + BitVec.ofNat 32 m + 1)
            rw [← HIM.out, iw_set, count_up] at st8
            refine ⟨m + 1, off + sz, q - sz, cq - sz, if cq = sz then off else off + sz, by omega, by omega, fun h => ?_, by split <;> rfl, ?_⟩
            · have := HS3.out
              have := HPM.out
              exact ⟨by omega, by rw [if_neg (by omega)]⟩
            · rw [← count_up] at st8 ⊢
              exact st8
          case measure =>
            show q - sz < q
            omega
    · have hq0 : ¬ ((0 : Int) < q) := by omega
      have hq' : q = 0 := by omega
      have hp : p = s.size := by omega
      have htr : mixlCh (ls s) (ks k n c) p = trn (ls s) (ks k n c) := mixl_all _ _ _ (by rw [HLS.out, hp]; exact Nat.le_refl _)
      rw [htr] at st0
      have hcv := turned_conv st0 s.size (by rw [length_trn, HLS.out])
      have HF := Lib.hid st0.bel
      clear st0 htr hp HST hoff hq'
      go_wp2_with fail
      go_ret2
      exact ⟨rfl, HF.out⟩
end Go.Proofs.Ytkfacnegfkgcgaa

/-
  Numbers in five limbs of 26 bits, modulo 2^130 - 5: plain facts. No program stands in them.
-/
namespace MS

abbrev P130 : Nat := 1361129467683753853853498429727072845819
structure L5 where
  a : Nat
  b : Nat
  c : Nat
  d : Nat
  e : Nat
def L5.v (x : L5) : Nat := x.a + 67108864 * x.b + 4503599627370496 * x.c + 302231454903657293676544 * x.d + 20282409603651670423947251286016 * x.e
/-- A step of carry: what has come over from below. -/
def cov (x over : Nat) : Nat := (x + over) / 67108864
def crs (x over : Nat) : Nat := (x + over) % 67108864
def carL (x : L5) : L5 :=
  let o0 := cov x.a 0
  let o1 := cov x.b o0
  let o2 := cov x.c o1
  let o3 := cov x.d o2
  let o4 := cov x.e o3
  ⟨crs x.a 0 + 5 * o4, crs x.b o0, crs x.c o1, crs x.d o2, crs x.e o3⟩
theorem carL_v (x : L5) : ∃ k, (carL x).v + k * P130 = x.v := by
  refine ⟨cov x.e (cov x.d (cov x.c (cov x.b (cov x.a 0)))), ?_⟩
  simp only [carL, L5.v, cov, crs, P130]
  omega
theorem carL_mod (x : L5) : (carL x).v % P130 = x.v % P130 := by
  obtain ⟨k, h⟩ := carL_v x
  rw [← h, Nat.add_mul_mod_self_right]
theorem carL_lt (x : L5) (ha : x.a < 1152921504606846976) (hb : x.b < 1152921504606846976) (hc : x.c < 1152921504606846976) (hd : x.d < 1152921504606846976) (he : x.e < 1152921504606846976) :
    (carL x).a < 137438953472 ∧ (carL x).b < 67108864 ∧ (carL x).c < 67108864 ∧ (carL x).d < 67108864 ∧ (carL x).e < 67108864 := by
  simp only [carL, cov, crs]
  omega
/-- The product's five sums. -/
def mulD (h r : L5) : L5 :=
  ⟨h.a * r.a + 5 * (h.b * r.e + h.c * r.d + h.d * r.c + h.e * r.b),
   h.a * r.b + h.b * r.a + 5 * (h.c * r.e + h.d * r.d + h.e * r.c),
   h.a * r.c + h.b * r.b + h.c * r.a + 5 * (h.d * r.e + h.e * r.d),
   h.a * r.d + h.b * r.c + h.c * r.b + h.d * r.a + 5 * (h.e * r.e),
   h.a * r.e + h.b * r.d + h.c * r.c + h.d * r.b + h.e * r.a⟩
theorem mulD_mod (h r : L5) : (mulD h r).v % P130 = h.v * r.v % P130 := by
  have e : (mulD h r).v + (h.b * r.e + h.c * r.d + h.d * r.c + h.e * r.b + 67108864 * (h.c * r.e + h.d * r.d + h.e * r.c) + 4503599627370496 * (h.d * r.e + h.e * r.d) + 302231454903657293676544 * (h.e * r.e)) * P130 = h.v * r.v := by
    simp only [mulD, L5.v, P130]
    simp only [Nat.add_mul, Nat.mul_add]
    generalize h.a = a1
    generalize h.b = b1
    generalize h.c = c1
    generalize h.d = d1
    generalize h.e = e1
    generalize r.a = a2
    generalize r.b = b2
    generalize r.c = c2
    generalize r.d = d2
    generalize r.e = e2
    grind
  rw [← e, Nat.add_mul_mod_self_right]
/-- Bounds in and between the steps. -/
def L5.in28 (x : L5) : Prop := x.a < 268435456 ∧ x.b < 268435456 ∧ x.c < 268435456 ∧ x.d < 268435456 ∧ x.e < 268435456
def L5.in26 (x : L5) : Prop := x.a < 67108864 ∧ x.b < 67108864 ∧ x.c < 67108864 ∧ x.d < 67108864 ∧ x.e < 67108864
def L5.in27 (x : L5) : Prop := x.a < 67108864 ∧ x.b < 67110912 ∧ x.c < 67108864 ∧ x.d < 67108864 ∧ x.e < 67108864
/-- What mul returns. -/
def mulL (h r : L5) : L5 :=
  let d := carL (mulD h r)
  ⟨d.a % 67108864, d.b + d.a / 67108864, d.c, d.d, d.e⟩
theorem mul54 {x y : Nat} (hx : x < 268435456) (hy : y < 67108864) : x * y < 18014398509481984 :=
  Nat.lt_of_le_of_lt (Nat.mul_le_mul (Nat.le_of_lt_succ (show x < 268435455 + 1 from hx)) (Nat.le_of_lt_succ (show y < 67108863 + 1 from hy))) (by decide)
theorem mulD_lt {h r : L5} (hh : h.in28) (hr : r.in26) : (mulD h r).a < 1152921504606846976 ∧ (mulD h r).b < 1152921504606846976 ∧ (mulD h r).c < 1152921504606846976 ∧ (mulD h r).d < 1152921504606846976 ∧ (mulD h r).e < 1152921504606846976 := by
  obtain ⟨h0, h1, h2, h3, h4⟩ := hh
  obtain ⟨r0, r1, r2, r3, r4⟩ := hr
  have m : ∀ x y, x < 268435456 → y < 67108864 → x * y < 18014398509481984 := fun x y => mul54
  have := m _ _ h0 r0; have := m _ _ h0 r1; have := m _ _ h0 r2; have := m _ _ h0 r3; have := m _ _ h0 r4
  have := m _ _ h1 r0; have := m _ _ h1 r1; have := m _ _ h1 r2; have := m _ _ h1 r3; have := m _ _ h1 r4
  have := m _ _ h2 r0; have := m _ _ h2 r1; have := m _ _ h2 r2; have := m _ _ h2 r3; have := m _ _ h2 r4
  have := m _ _ h3 r0; have := m _ _ h3 r1; have := m _ _ h3 r2; have := m _ _ h3 r3; have := m _ _ h3 r4
  have := m _ _ h4 r0; have := m _ _ h4 r1; have := m _ _ h4 r2; have := m _ _ h4 r3; have := m _ _ h4 r4
  simp only [mulD]
  omega
theorem mulL_in {h r : L5} (hh : h.in28) (hr : r.in26) : (mulL h r).in27 := by
  obtain ⟨m0, m1, m2, m3, m4⟩ := mulD_lt hh hr
  obtain ⟨c0, c1, c2, c3, c4⟩ := carL_lt (mulD h r) m0 m1 m2 m3 m4
  unfold L5.in27 mulL
  simp only
  omega
theorem mulL_mod (h r : L5) : (mulL h r).v % P130 = h.v * r.v % P130 := by
  have e : (mulL h r).v = (carL (mulD h r)).v := by
    simp only [mulL, L5.v]
    omega
  rw [e, carL_mod, mulD_mod]
/-- The least one. -/
def twice5 (x : L5) : L5 := carL (carL x)
theorem twice5_in {x : L5} (h : x.in27) : (twice5 x).in26 := by
  obtain ⟨a, b, c, d, e⟩ := x
  obtain ⟨h0, h1, h2, h3, h4⟩ := h
  simp only at h0 h1 h2 h3 h4
  unfold L5.in26 twice5
  simp only [carL, cov, crs]
  omega
theorem twice5_mod (x : L5) : (twice5 x).v % P130 = x.v % P130 := by rw [twice5, carL_mod, carL_mod]
def plus5 (x : L5) : Nat × L5 :=
  let o0 := cov (x.a + 5) 0
  let o1 := cov x.b o0
  let o2 := cov x.c o1
  let o3 := cov x.d o2
  let o4 := cov x.e o3
  (o4, ⟨crs (x.a + 5) 0, crs x.b o0, crs x.c o1, crs x.d o2, crs x.e o3⟩)
def leastL (x : L5) : L5 := if 0 < (plus5 (twice5 x)).1 then (plus5 (twice5 x)).2 else twice5 x
theorem plus5_v (x : L5) : (plus5 x).2.v + (plus5 x).1 * 1361129467683753853853498429727072845824 = x.v + 5 := by
  simp only [plus5, L5.v, cov, crs]
  omega
theorem plus5_in (x : L5) : (plus5 x).2.in26 := by
  unfold L5.in26
  simp only [plus5, crs]
  omega
theorem in26_v {x : L5} (h : x.in26) : x.v < 1361129467683753853853498429727072845824 := by
  obtain ⟨h0, h1, h2, h3, h4⟩ := h
  unfold L5.v
  omega
theorem leastL_v {x : L5} (h : x.in27) : (leastL x).v = x.v % P130 := by
  have h1 := twice5_in h
  have h2 := in26_v h1
  have h3 := plus5_v (twice5 x)
  have h4 := in26_v (plus5_in (twice5 x))
  rw [← twice5_mod x]
  unfold leastL
  generalize twice5 x = y at *
  generalize (plus5 y).1 = o at *
  split
  · rename_i ho
    have ho1 : o = 1 := by omega
    subst ho1
    have e : y.v = (plus5 y).2.v + 1 * P130 := by unfold P130; omega
    rw [e, Nat.add_mul_mod_self_right, Nat.mod_eq_of_lt (by unfold P130; omega)]
  · rename_i ho
    have ho0 : o = 0 := by omega
    subst ho0
    rw [Nat.mod_eq_of_lt (by unfold P130; omega)]
theorem leastL_in {x : L5} (h : x.in27) : (leastL x).in26 := by
  unfold leastL
  split
  · exact plus5_in _
  · exact twice5_in h
end MS

/-
  Numbers in digits to a base: plain facts on sums, differences, products. No program stands in them.
-/
namespace MS
/-- The n lowest digits of v to the base B. -/
def dgn (B n v : Nat) : List Nat := (List.range n).map fun i => v / B ^ i % B
theorem length_dgn (B n v : Nat) : (dgn B n v).length = n := by simp [dgn]
theorem dg_get (B n v i : Nat) (h : i < n) : (dgn B n v)[i]? = some (v / B ^ i % B) := by simp [dgn, h]
theorem dg_succ (B n v : Nat) : dgn B (n + 1) v = dgn B n v ++ [v / B ^ n % B] := by simp [dgn, List.range_succ]
theorem dig_mod (B n v i : Nat) (h : i < n) : v % B ^ n / B ^ i % B = v / B ^ i % B := by
  obtain ⟨k, rfl⟩ : ∃ k, n = i + (k + 1) := ⟨n - i - 1, by omega⟩
  rw [Nat.pow_add, Nat.mod_mul_right_div_self, Nat.pow_succ, Nat.mul_comm, Nat.mod_mul_right_mod]
theorem dg_congr (B n v u : Nat) (h : v % B ^ n = u % B ^ n) : dgn B n v = dgn B n u := by
  apply List.ext_getElem?
  intro i
  by_cases hi : i < n
  · rw [dg_get _ _ _ _ hi, dg_get _ _ _ _ hi, ← dig_mod B n v i hi, h, dig_mod B n u i hi]
  · rw [List.getElem?_eq_none (by rw [length_dgn]; omega), List.getElem?_eq_none (by rw [length_dgn]; omega)]
theorem dg_mod (B n v : Nat) : dgn B n (v % B ^ n) = dgn B n v := dg_congr _ _ _ _ (Nat.mod_mod _ _)
theorem dig_lt (B : Nat) (hB : 0 < B) (v i : Nat) : v / B ^ i % B < B := Nat.mod_lt _ hB
theorem dig_zero {B n v i : Nat} (h : v < B ^ n) (hB : 0 < B) (hi : n ≤ i) : v / B ^ i % B = 0 := by
  rw [Nat.div_eq_of_lt (Nat.lt_of_lt_of_le h (Nat.pow_le_pow_right hB hi)), Nat.zero_mod]
theorem mod_succ (B v i : Nat) : v % B ^ (i + 1) = v % B ^ i + B ^ i * (v / B ^ i % B) := by
  rw [Nat.pow_succ, Nat.mod_mul]
/-- The top digit is nought: one digit fewer does. -/
theorem lt_of_top {B n v : Nat} (h : v < B ^ (n + 1)) (h0 : v / B ^ n % B = 0) : v < B ^ n := by
  have h1 := mod_succ B v n
  rw [Nat.mod_eq_of_lt h, h0, Nat.mul_zero, Nat.add_zero] at h1
  rw [h1]
  refine Nat.mod_lt _ ?_
  rcases Nat.eq_zero_or_pos (B ^ n) with e | e
  · rw [Nat.pow_succ, e, Nat.zero_mul] at h
    omega
  · exact e
theorem ge_of_top {B n v : Nat} (h0 : v / B ^ n % B ≠ 0) : B ^ n ≤ v := by
  refine Nat.le_of_not_lt fun hl => h0 ?_
  rw [Nat.div_eq_of_lt hl, Nat.zero_mod]

/-- add: what is carried into place i. -/
def cry (B u v i : Nat) : Nat := (u % B ^ i + v % B ^ i) / B ^ i
theorem cry_zero (B u v : Nat) : cry B u v 0 = 0 := by simp [cry, Nat.mod_one]
theorem cry_le (B u v i : Nat) (hB : 0 < B) : cry B u v i ≤ 1 := by
  have hX : 0 < B ^ i := Nat.pow_pos hB
  have h1 := Nat.mod_lt u hX
  have h2 := Nat.mod_lt v hX
  unfold cry
  rw [← Nat.lt_succ_iff, Nat.div_lt_iff_lt_mul hX]
  omega
theorem add_sum (B u v i : Nat) (hB : 0 < B) : (u + v) / B ^ i = cry B u v i + u / B ^ i + v / B ^ i := by
  have hX : 0 < B ^ i := Nat.pow_pos hB
  unfold cry
  generalize B ^ i = X at hX
  have h1 : u + v = u % X + v % X + X * (u / X + v / X) := by
    have := Nat.div_add_mod u X; have := Nat.div_add_mod v X
    rw [Nat.mul_add]; omega
  conv => lhs; rw [h1, Nat.add_mul_div_left _ _ hX]
  omega
theorem add_digit (B u v i : Nat) (hB : 0 < B) : (u + v) / B ^ i % B = (cry B u v i + u / B ^ i % B + v / B ^ i % B) % B := by
  rw [add_sum B u v i hB]
  simp [Nat.add_mod]
theorem add_carry (B u v i : Nat) (hB : 0 < B) : cry B u v (i + 1) = (cry B u v i + u / B ^ i % B + v / B ^ i % B) / B := by
  have hX : 0 < B ^ i := Nat.pow_pos hB
  unfold cry
  rw [mod_succ, mod_succ, Nat.pow_succ, ← Nat.div_div_eq_div_mul]
  congr 1
  generalize B ^ i = X at hX
  have h1 : u % X + X * (u / X % B) + (v % X + X * (v / X % B)) = u % X + v % X + X * (u / X % B + v / X % B) := by rw [Nat.mul_add]; omega
  rw [h1, Nat.add_mul_div_left _ _ hX]
  omega
/-- add ends where both are over and nothing is carried. -/
theorem add_ends {B u v n m i : Nat} (hu : u < B ^ n) (hv : v < B ^ m) (hB : 0 < B) (hn : n ≤ i) (hm : m ≤ i) (hc : cry B u v i = 0) : u + v < B ^ i := by
  have hX : 0 < B ^ i := Nat.pow_pos hB
  have h1 : u < B ^ i := Nat.lt_of_lt_of_le hu (Nat.pow_le_pow_right hB hn)
  have h2 : v < B ^ i := Nat.lt_of_lt_of_le hv (Nat.pow_le_pow_right hB hm)
  unfold cry at hc
  rw [Nat.mod_eq_of_lt h1, Nat.mod_eq_of_lt h2] at hc
  refine Nat.lt_of_not_le fun hle => ?_
  have := Nat.div_pos hle hX
  omega
/-- times: the sum so far, and what is carried. -/
def tsum (B u v i k : Nat) : Nat := (u % B ^ i * v) % B ^ (i + k) + B ^ i * (u / B ^ i % B) * (v % B ^ k)
theorem tsum_zero (B u v i : Nat) : tsum B u v i 0 = u % B ^ i * v % B ^ i := by simp [tsum, Nat.mod_one]
theorem tsum_succ (B u v i k : Nat) : tsum B u v i (k + 1) = tsum B u v i k + B ^ (i + k) * ((u % B ^ i * v) / B ^ (i + k) % B + u / B ^ i % B * (v / B ^ k % B)) := by
  unfold tsum
  rw [← Nat.add_assoc, mod_succ B (u % B ^ i * v) (i + k), mod_succ B v k, Nat.pow_add, Nat.mul_add, Nat.mul_add]
  generalize u % B ^ i * v / (B ^ i * B ^ k) % B = a
  generalize u % B ^ i * v % (B ^ i * B ^ k) = a2
  generalize u / B ^ i % B = b
  generalize v / B ^ k % B = c
  have : B ^ i * b * (B ^ k * c) = B ^ i * B ^ k * (b * c) := by
    rw [Nat.mul_assoc, Nat.mul_assoc]
    congr 1
    rw [Nat.mul_left_comm]
  omega
theorem tsum_step (B u v i k : Nat) (hB : 0 < B) : tsum B u v i (k + 1) / B ^ (i + k) = tsum B u v i k / B ^ (i + k) + ((u % B ^ i * v) / B ^ (i + k) % B + u / B ^ i % B * (v / B ^ k % B)) := by
  rw [tsum_succ, Nat.add_mul_div_left _ _ (Nat.pow_pos hB)]
theorem tsum_digit (B u v i k : Nat) (hB : 0 < B) : tsum B u v i (k + 1) / B ^ (i + k) % B = (tsum B u v i k / B ^ (i + k) + ((u % B ^ i * v) / B ^ (i + k) % B + u / B ^ i % B * (v / B ^ k % B))) % B := by
  rw [tsum_step _ _ _ _ _ hB]
theorem tsum_carry (B u v i k : Nat) (hB : 0 < B) : tsum B u v i (k + 1) / B ^ (i + (k + 1)) = (tsum B u v i k / B ^ (i + k) + ((u % B ^ i * v) / B ^ (i + k) % B + u / B ^ i % B * (v / B ^ k % B))) / B := by
  rw [← tsum_step _ _ _ _ _ hB, ← Nat.add_assoc, Nat.pow_succ, Nat.div_div_eq_div_mul]
theorem tsum_low (B u v i k : Nat) : tsum B u v i (k + 1) % B ^ (i + k) = tsum B u v i k % B ^ (i + k) := by
  rw [tsum_succ, Nat.add_mul_mod_self_left]
theorem tsum_c0 (B u v i : Nat) (hB : 0 < B) : tsum B u v i 0 / B ^ (i + 0) = 0 := by
  rw [tsum_zero, Nat.add_zero, Nat.div_eq_of_lt (Nat.mod_lt _ (Nat.pow_pos hB))]
theorem tsum_end (B u v i m : Nat) (hB : 0 < B) (hv : v < B ^ m) : tsum B u v i m = u % B ^ (i + 1) * v := by
  have h1 : u % B ^ i * v < B ^ (i + m) := by
    rw [Nat.pow_add]
    have h2 := Nat.mod_lt u (Nat.pow_pos (n := i) hB)
    rcases Nat.eq_zero_or_pos v with e | e
    · subst e; rw [Nat.mul_zero]; exact Nat.mul_pos (Nat.pow_pos hB) (Nat.pow_pos hB)
    · exact Nat.lt_trans (Nat.mul_lt_mul_of_pos_right h2 e) (Nat.mul_lt_mul_of_pos_left hv (Nat.pow_pos hB))
  rw [tsum, Nat.mod_eq_of_lt h1, Nat.mod_eq_of_lt hv, mod_succ, Nat.add_mul]
theorem prod_lt_pow {B n m u v : Nat} (hu : u < B ^ n) (hv : v < B ^ m) (hB : 0 < B) : u * v < B ^ (n + m) := by
  rw [Nat.pow_add]
  rcases Nat.eq_zero_or_pos v with e | e
  · subst e; rw [Nat.mul_zero]; exact Nat.mul_pos (Nat.pow_pos hB) (Nat.pow_pos hB)
  · exact Nat.lt_trans (Nat.mul_lt_mul_of_pos_right hu e) (Nat.mul_lt_mul_of_pos_left hv (Nat.pow_pos hB))
/-- What is carried stays below the base, so that every sum stays small. -/
theorem tsum_c_lt (B u v i k : Nat) (hB : 0 < B) : tsum B u v i k / B ^ (i + k) < B := by
  induction k with
  | zero => rw [tsum_c0 _ _ _ _ hB]; exact hB
  | succ k ih =>
    rw [tsum_carry _ _ _ _ _ hB, Nat.div_lt_iff_lt_mul hB]
    have h1 : (u % B ^ i * v) / B ^ (i + k) % B < B := Nat.mod_lt _ hB
    have h2 : u / B ^ i % B < B := Nat.mod_lt _ hB
    have h3 : v / B ^ k % B < B := Nat.mod_lt _ hB
    have h4 : u / B ^ i % B * (v / B ^ k % B) ≤ (B - 1) * (B - 1) := Nat.mul_le_mul (by omega) (by omega)
    have h5 : (B - 1) * (B - 1) + (B + B) = B * B + 1 := by
      obtain ⟨c, rfl⟩ : ∃ c, B = c + 1 := ⟨B - 1, by omega⟩
      simp [Nat.mul_add, Nat.add_mul]; omega
    omega
/-- The row of times behind k rounds of the inner loop. -/
def trow (B N u v i k : Nat) : List Nat := dgn B (i + k) (tsum B u v i k) ++ (dgn B N (u % B ^ i * v)).drop (i + k)
theorem length_trow (B N u v i k : Nat) (h : i + k ≤ N) : (trow B N u v i k).length = N := by
  rw [trow, List.length_append, length_dgn, List.length_drop, length_dgn]; omega
theorem trow_zero (B N u v i : Nat) (h : i ≤ N) : trow B N u v i 0 = dgn B N (u % B ^ i * v) := by
  rw [trow, tsum_zero, Nat.add_zero, dg_mod]
  apply List.ext_getElem?
  intro j
  rw [List.getElem?_append, length_dgn]
  by_cases h1 : j < i
  · rw [if_pos h1, dg_get _ _ _ _ h1, dg_get _ _ _ _ (by omega)]
  · rw [if_neg h1, List.getElem?_drop, show i + (j - i) = j by omega]
theorem trow_get (B N u v i k j : Nat) (h : i + k ≤ j) (hj : j < N) : (trow B N u v i k)[j]? = some (u % B ^ i * v / B ^ j % B) := by
  rw [trow, List.getElem?_append_right (by rw [length_dgn]; exact h), length_dgn, List.getElem?_drop, show i + k + (j - (i + k)) = j by omega, dg_get _ _ _ _ hj]
theorem drop_cons {α : Type} (l : List α) (p : Nat) (x : α) (h : p < l.length) : (l.drop p).set 0 x = x :: l.drop (p + 1) := by
  rw [List.drop_eq_getElem_cons h]; rfl
theorem trow_set (B N u v i k : Nat) (h : i + k < N) : (trow B N u v i k).set (i + k) (tsum B u v i (k + 1) / B ^ (i + k) % B) = trow B N u v i (k + 1) := by
  have hl : (dgn B (i + k) (tsum B u v i k)).length = i + k := length_dgn _ _ _
  rw [trow, List.set_append_right _ _ (by omega), hl, Nat.sub_self, drop_cons _ _ _ (by rw [length_dgn]; exact h), trow, ← Nat.add_assoc, dg_succ, dg_congr B (i + k) _ _ (tsum_low B u v i k)]
  simp
theorem trow_last (B N u v i m : Nat) (hB : 0 < B) (hv : v < B ^ m) (h : i + m < N) : (trow B N u v i m).set (i + m) (u % B ^ i * v / B ^ (i + m) % B + tsum B u v i m / B ^ (i + m)) = dgn B N (u % B ^ (i + 1) * v) := by
  have hW : u % B ^ i * v < B ^ (i + m) := prod_lt_pow (Nat.mod_lt _ (Nat.pow_pos hB)) hv hB
  have hV : u % B ^ (i + 1) * v < B ^ (i + 1 + m) := prod_lt_pow (Nat.mod_lt _ (Nat.pow_pos hB)) hv hB
  have hc := tsum_c_lt B u v i m hB
  rw [tsum_end B u v i m hB hv] at hc ⊢
  have hl : (dgn B (i + m) (u % B ^ (i + 1) * v)).length = i + m := length_dgn _ _ _
  rw [trow, tsum_end B u v i m hB hv, List.set_append_right _ _ (by omega), hl, Nat.sub_self, drop_cons _ _ _ (by rw [length_dgn]; exact h), Nat.div_eq_of_lt hW, Nat.zero_mod, Nat.zero_add]
  apply List.ext_getElem?
  intro j
  rw [List.getElem?_append, hl]
  by_cases h1 : j < i + m
  · rw [if_pos h1, dg_get _ _ _ _ h1, dg_get _ _ _ _ (by omega)]
  · rw [if_neg h1]
    by_cases h2 : j = i + m
    · subst h2
      rw [Nat.sub_self, List.getElem?_cons_zero, dg_get _ _ _ _ h, Nat.mod_eq_of_lt hc]
    · obtain ⟨d, hd⟩ : ∃ d, j - (i + m) = d + 1 := ⟨j - (i + m) - 1, by omega⟩
      rw [hd, List.getElem?_cons_succ, List.getElem?_drop, show i + m + 1 + d = j by omega]
      by_cases h3 : j < N
      · rw [dg_get _ _ _ _ h3, dg_get _ _ _ _ h3, dig_zero hW hB (by omega), dig_zero hV hB (by omega)]
      · rw [List.getElem?_eq_none (by rw [length_dgn]; omega), List.getElem?_eq_none (by rw [length_dgn]; omega)]
/-- All the rounds: the sum of the places below n. -/
theorem dg_zero (B n : Nat) : dgn B n 0 = List.replicate n 0 := by
  apply List.ext_getElem?
  intro j
  by_cases h : j < n
  · rw [dg_get _ _ _ _ h]; simp [h]
  · rw [List.getElem?_eq_none (by rw [length_dgn]; omega), List.getElem?_eq_none (by simp; omega)]

/-- minus: what is lent at place i. -/
def lent (B u v i : Nat) : Nat := if u % B ^ i < v % B ^ i then 1 else 0
theorem lent_zero (B u v : Nat) : lent B u v 0 = 0 := by simp [lent, Nat.mod_one]
theorem lent_step (B u v i : Nat) (hB : 0 < B) : lent B u v (i + 1) = if u / B ^ i % B < v / B ^ i % B + lent B u v i then 1 else 0 := by
  unfold lent
  rw [mod_succ, mod_succ]
  have hX : 0 < B ^ i := Nat.pow_pos hB
  generalize B ^ i = X at hX
  have h1 := Nat.mod_lt u hX
  have h2 := Nat.mod_lt v hX
  generalize u % X = a at h1 ⊢
  generalize v % X = b at h2 ⊢
  generalize u / X % B = p
  generalize v / X % B = q
  by_cases hpq : p < q
  · have : X * p + X ≤ X * q := by rw [← Nat.mul_succ]; exact Nat.mul_le_mul_left _ hpq
    rw [if_pos (by omega), if_pos (by split <;> omega)]
  · by_cases he : p = q
    · subst he
      by_cases hab : a < b
      · rw [if_pos (by omega), if_pos hab, if_pos (by omega)]
      · rw [if_neg (by omega), if_neg hab, if_neg (by omega)]
    · have : X * q + X ≤ X * p := by rw [← Nat.mul_succ]; exact Nat.mul_le_mul_left _ (by omega)
      rw [if_neg (by omega), if_neg (by split <;> omega)]
theorem sub_digit (B u v i : Nat) (hB : 0 < B) (h : v ≤ u) : ((u - v) / B ^ i % B) + (v / B ^ i % B + lent B u v i) = u / B ^ i % B + B * lent B u v (i + 1) := by
  obtain ⟨d, rfl⟩ : ∃ d, u = v + d := ⟨u - v, by omega⟩
  rw [Nat.add_sub_cancel_left]
  have e1 : ∀ j, lent B (v + d) v j = cry B v d j := by
    intro j
    have hX : 0 < B ^ j := Nat.pow_pos hB
    unfold lent cry
    rw [Nat.add_mod]
    generalize B ^ j = X at hX
    have h1 := Nat.mod_lt d hX
    have h2 := Nat.mod_lt v hX
    generalize d % X = a at h1 ⊢
    generalize v % X = b at h2 ⊢
    by_cases hc : b + a < X
    · rw [Nat.mod_eq_of_lt hc, if_neg (by omega), Nat.div_eq_of_lt hc]
    · rw [Nat.mod_eq_sub_mod (by omega), Nat.mod_eq_of_lt (by omega), if_pos (by omega), Nat.div_eq_sub_div hX (by omega), Nat.div_eq_of_lt (by omega)]
  rw [e1, e1, add_digit _ _ _ _ hB, add_carry _ _ _ _ hB]
  have := Nat.div_add_mod (cry B v d i + v / B ^ i % B + d / B ^ i % B) B
  omega
/-- below: the first place from above that differs. -/
theorem lt_of_digit {B u v i : Nat} (hB : 0 < B) (h : u / B ^ (i + 1) = v / B ^ (i + 1)) (hd : u / B ^ i % B < v / B ^ i % B) : u < v := by
  have hX : 0 < B ^ i := Nat.pow_pos hB
  rw [Nat.pow_succ, ← Nat.div_div_eq_div_mul, ← Nat.div_div_eq_div_mul] at h
  have h1 := Nat.div_add_mod (u / B ^ i) B
  have h2 := Nat.div_add_mod (v / B ^ i) B
  rw [h] at h1
  refine Nat.lt_of_not_le fun hle => ?_
  have := Nat.div_le_div_right (c := B ^ i) hle
  omega
theorem div_of_digit {B u v i : Nat} (h : u / B ^ (i + 1) = v / B ^ (i + 1)) (hd : u / B ^ i % B = v / B ^ i % B) : u / B ^ i = v / B ^ i := by
  rw [Nat.pow_succ, ← Nat.div_div_eq_div_mul, ← Nat.div_div_eq_div_mul] at h
  rw [← Nat.div_add_mod (u / B ^ i) B, ← Nat.div_add_mod (v / B ^ i) B, h, hd]
end MS

/-
  Blocks of the call's own, each known whole: what a walk keeps of them behind stores, calls and allocations.
-/
namespace MS
open Go Go.RowKit
/-- A block: its number, its cells, their type. -/
abbrev Blk := Nat × Array Value × TypeId
structure Rw (w0 : World) (l : List Blk) (w : World) : Prop where
  nd : (l.map (·.1)).Nodup
  ge : ∀ r ∈ l, w0.heap.size ≤ r.1
  rows : ∀ r ∈ l, w.heap[r.1]? = some (.cells r.2.1 r.2.2 (0, 0))
  bel : Below w0.heap.size w0 w
theorem Rw.nil (w : World) : Rw w [] w := ⟨by simp, by simp, by simp, Below.refl _ _⟩
theorem Rw.lt {w0 w : World} {l : List Blk} (h : Rw w0 l w) (r : Blk) (hr : r ∈ l) : r.1 < w.heap.size := (Array.getElem?_eq_some_iff.1 (h.rows r hr)).1
theorem Rw.on {w0 w w' : World} {l : List Blk} (h : Rw w0 l w) (hb : Below w.heap.size w w') : Rw w0 l w' :=
  ⟨h.nd, h.ge, fun r hr => (hb.block _ (h.lt r hr)).trans (h.rows r hr), h.bel.trans (hb.mono h.bel.size)⟩
theorem Rw.drew {w0 w : World} {l : List Blk} (h : Rw w0 l w) : Rw w0 l w.drew := ⟨h.nd, h.ge, h.rows, h.bel.drew⟩
theorem Rw.drewN {w0 w : World} {l : List Blk} (h : Rw w0 l w) (k : Nat) : Rw w0 l (w.drewN k) := ⟨h.nd, h.ge, h.rows, ⟨h.bel.os, h.bel.tape, h.bel.output, h.bel.size, h.bel.block⟩⟩
theorem Rw.alloc {w0 w : World} {l : List Blk} (h : Rw w0 l w) (cs : Array Value) (T : TypeId) : Rw w0 (l ++ [(w.heap.size, cs, T)]) (w.alloc (.cells cs T (0, 0))) := by
  refine ⟨?_, ?_, ?_, h.bel.alloc h.bel.size _⟩
  · rw [List.map_append, List.nodup_append]
    refine ⟨h.nd, by simp, ?_⟩
    intro a ha b hb
    obtain ⟨r, hr, rfl⟩ := List.mem_map.1 ha
    simp only [List.map_cons, List.map_nil, List.mem_singleton] at hb
    have := h.lt r hr
    omega
  · intro r hr
    rcases List.mem_append.1 hr with h1 | h1
    · exact h.ge r h1
    · rw [List.mem_singleton.1 h1]; exact h.bel.size
  · intro r hr
    rcases List.mem_append.1 hr with h1 | h1
    · exact ((MapKept.heap_alloc w _).2 _ (h.lt r h1)).trans (h.rows r h1)
    · rw [List.mem_singleton.1 h1]; exact (MapKept.heap_alloc w _).1
/-- Blocks of no interest, made in between. -/
theorem Rw.alloc_other {w0 w : World} {l : List Blk} (h : Rw w0 l w) (o : Obj) : Rw w0 l (w.alloc o) := h.on ((Below.refl _ _).alloc (Nat.le_refl _) o)
theorem Rw.drop {w0 w : World} {l : List Blk} {r : Blk} (h : Rw w0 (r :: l) w) : Rw w0 l w :=
  ⟨(List.nodup_cons.1 h.nd).2, fun s hs => h.ge s (List.mem_cons_of_mem _ hs), fun s hs => h.rows s (List.mem_cons_of_mem _ hs), h.bel⟩
theorem Rw.row {w0 w : World} {l : List Blk} (h : Rw w0 l w) (i : Nat) {g : Nat} {cs : Array Value} {T : TypeId} (hi : l[i]? = some (g, cs, T) := by rfl) : w.heap[g]? = some (.cells cs T (0, 0)) := h.rows _ (List.mem_of_getElem? hi)
theorem Rw.cell {w0 w : World} {l : List Blk} (h : Rw w0 l w) (i j : Nat) {g : Nat} {cs : Array Value} {T : TypeId} {v : Value} (hv : cs[j]? = some v) (hi : l[i]? = some (g, cs, T) := by rfl) : w.cell? ⟨g, j, none⟩ = some v := by
  rw [cell_of_row w g j cs T (0, 0) (h.row i hi), hv]
theorem Rw.free {w0 w : World} {l : List Blk} (h : Rw w0 l w) (i j : Nat) {g : Nat} {cs : Array Value} {T : TypeId} (hi : l[i]? = some (g, cs, T) := by rfl) : w.frozen? ⟨g, j, none⟩ = false := frozen_of_row w g j cs T (h.row i hi)
theorem set_map (l : List Blk) (i g : Nat) (cs cs' : Array Value) (T : TypeId) (hi : l[i]? = some (g, cs, T)) : (l.set i (g, cs', T)).map (·.1) = l.map (·.1) := by
  apply List.ext_getElem?
  intro j
  rw [List.getElem?_map, List.getElem?_set, List.getElem?_map]
  by_cases e : i = j
  · subst e
    have hl : i < l.length := (List.getElem?_eq_some_iff.1 hi).1
    rw [if_pos rfl, if_pos hl, hi]; rfl
  · rw [if_neg e]
theorem mem_set_cases {l : List Blk} {i : Nat} {b r : Blk} (hr : r ∈ l.set i b) : r = b ∨ ∃ j, j ≠ i ∧ l[j]? = some r := by
  obtain ⟨j, hj⟩ := List.mem_iff_getElem?.1 hr
  rw [List.getElem?_set] at hj
  by_cases e : i = j
  · rw [if_pos e] at hj
    split at hj
    · exact .inl (Option.some.inj hj).symm
    · cases hj
  · rw [if_neg e] at hj
    exact .inr ⟨j, fun h => e h.symm, hj⟩
theorem nodup_ne {l : List Blk} (h : (l.map (·.1)).Nodup) {i j : Nat} {a b : Blk} (hi : l[i]? = some a) (hj : l[j]? = some b) (hne : j ≠ i) : b.1 ≠ a.1 := by
  intro e
  have hi' : (l.map (·.1))[i]? = some a.1 := by rw [List.getElem?_map, hi]; rfl
  have hj' : (l.map (·.1))[j]? = some a.1 := by rw [List.getElem?_map, hj]; exact congrArg some e
  exact hne ((List.getElem?_inj (List.getElem?_eq_some_iff.1 hi').1 h).1 (hi'.trans hj'.symm)).symm
theorem Rw.change {w0 w w' : World} {l : List Blk} (h : Rw w0 l w) (i : Nat) {g : Nat} {cs : Array Value} {T : TypeId} (cs' : Array Value) (hi : l[i]? = some (g, cs, T)) (h1 : w'.heap[g]? = some (.cells cs' T (0, 0)))
    (h2 : ∀ k, k ≠ g → w'.heap[k]? = w.heap[k]?) (hb : Below w0.heap.size w0 w') : Rw w0 (l.set i (g, cs', T)) w' := by
  refine ⟨by rw [set_map l i g cs cs' T hi]; exact h.nd, ?_, ?_, hb⟩
  · intro r hr
    rcases mem_set_cases hr with rfl | ⟨j, _, hj⟩
    · exact h.ge (g, cs, T) (List.mem_of_getElem? hi)
    · exact h.ge _ (List.mem_of_getElem? hj)
  · intro r hr
    rcases mem_set_cases hr with rfl | ⟨j, hne, hj⟩
    · exact h1
    · rw [h2 _ (nodup_ne h.nd hi hj hne)]
      exact h.rows _ (List.mem_of_getElem? hj)
theorem Rw.put {w0 w : World} {l : List Blk} (h : Rw w0 l w) (i j : Nat) (v : Value) {g : Nat} {cs : Array Value} {T : TypeId} (hi : l[i]? = some (g, cs, T) := by rfl) : Rw w0 (l.set i (g, cs.setIfInBounds j v, T)) (w.setCell ⟨g, j, none⟩ v) :=
  h.change i _ hi (heap_setCell_same w g j cs T v (h.row i hi)) (fun _ hk => heap_setCell_other _ _ _ _ hk) (h.bel.setCell (h.ge (g, cs, T) (List.mem_of_getElem? hi)) v)
theorem below_row {B g : Nat} {w0 w : World} (h : Below B w0 w) (hg : B ≤ g) (cs : Array Value) : Below B w0 (w.setRow g cs) :=
  ⟨h.os, h.tape, h.output, by simpa using h.size, fun k hk => by rw [setRow_other _ _ _ _ (by omega)]; exact h.block k hk⟩
theorem Rw.store {w0 w : World} {l : List Blk} (h : Rw w0 l w) (i : Nat) (cs' : Array Value) {g : Nat} {cs : Array Value} {T : TypeId} (hi : l[i]? = some (g, cs, T) := by rfl) : Rw w0 (l.set i (g, cs', T)) (w.setRow g cs') :=
  h.change i _ hi (setRow_heap _ _ _ _ _ _ (h.row i hi)) (fun _ hk => setRow_other _ _ _ _ hk) (below_row h.bel (h.ge (g, cs, T) (List.mem_of_getElem? hi)) _)

/-- Five words of 64 bits. -/
def rowF (f : Nat → Nat) : Array Value := #[.int .u64 (f 0 : Nat), .int .u64 (f 1 : Nat), .int .u64 (f 2 : Nat), .int .u64 (f 3 : Nat), .int .u64 (f 4 : Nat)]
theorem rowF_get (f : Nat → Nat) (j : Nat) (h : j < 5) : (rowF f)[j]? = some (.int .u64 (f j : Nat)) := by
  have : j = 0 ∨ j = 1 ∨ j = 2 ∨ j = 3 ∨ j = 4 := by omega
  rcases this with rfl | rfl | rfl | rfl | rfl <;> rfl
def upd (f : Nat → Nat) (j v : Nat) : Nat → Nat := fun i => if i = j then v else f i
theorem rowF_set (f : Nat → Nat) (j v : Nat) (h : j < 5) : (rowF f).setIfInBounds j (.int .u64 (v : Nat)) = rowF (upd f j v) := by
  have : j = 0 ∨ j = 1 ∨ j = 2 ∨ j = 3 ∨ j = 4 := by omega
  rcases this with rfl | rfl | rfl | rfl | rfl <;> rfl
theorem rowF_congr {f g : Nat → Nat} (h : ∀ i, i < 5 → f i = g i) : rowF f = rowF g := by
  unfold rowF
  rw [h 0 (by decide), h 1 (by decide), h 2 (by decide), h 3 (by decide), h 4 (by decide)]
theorem size_rowF (f : Nat → Nat) : (rowF f).size = 5 := rfl
theorem one_rowF (f : Nat → Nat) : (rowF f).all (·.oneCell') = true := by simp [rowF, Value.oneCell']
/-- A row in whose first j places the new values stand. -/
def prog (F G : Nat → Nat) (j : Nat) : Nat → Nat := fun i => if i < j then G i else F i
theorem prog_zero (F G : Nat → Nat) : prog F G 0 = F := by funext i; simp [prog]
theorem prog_at (F G : Nat → Nat) (j : Nat) : prog F G j j = F j := if_neg (Nat.lt_irrefl j)
theorem prog_set (F G : Nat → Nat) (j : Nat) : upd (prog F G j) j (G j) = prog F G (j + 1) := by
  funext i
  unfold upd prog
  by_cases e : i = j
  · subst e; rw [if_pos rfl, if_pos (Nat.lt_succ_self i)]
  · rw [if_neg e]
    by_cases h : i < j
    · rw [if_pos h, if_pos (by omega)]
    · rw [if_neg h, if_neg (by omega)]
theorem prog_end (F G : Nat → Nat) : rowF (prog F G 5) = rowF G := rowF_congr fun _ hi => if_pos hi
end MS

/-
  Bytes as numbers, the key's first half cleared, the product's loops, the tag: plain facts. No program stands in them.
-/
namespace MS

/-- Bytes as a number, the lowest one first. -/
def leb : List UInt8 → Nat
  | [] => 0
  | b :: l => b.toNat + 256 * leb l
theorem leb_lt (l : List UInt8) : leb l < 256 ^ l.length := by
  induction l with
  | nil => decide
  | cons b l ih =>
    have := b.toNat_lt
    rw [leb, List.length_cons, Nat.pow_succ]
    generalize 256 ^ l.length = X at *
    omega
theorem leb_app (a b : List UInt8) : leb (a ++ b) = leb a + 256 ^ a.length * leb b := by
  induction a with
  | nil => simp [leb]
  | cons x a ih =>
    rw [List.cons_append, leb, leb, ih, List.length_cons, Nat.pow_succ, Nat.mul_add, Nat.mul_comm (256 ^ a.length) 256, Nat.mul_assoc]
    omega
theorem leb_div (l : List UInt8) (i : Nat) : leb l / 256 ^ i = leb (l.drop i) := by
  induction i generalizing l with
  | zero => simp
  | succ i ih =>
    cases l with
    | nil => simp [leb]
    | cons b l =>
      have := b.toNat_lt
      rw [List.drop_succ_cons, ← ih l, Nat.pow_succ, Nat.mul_comm, ← Nat.div_div_eq_div_mul, leb]
      congr 1
      omega
theorem leb_mod (l : List UInt8) (i : Nat) : leb l % 256 ^ i = leb (l.take i) := by
  by_cases h : i ≤ l.length
  · have e := leb_app (l.take i) (l.drop i)
    have hl := leb_lt (l.take i)
    rw [List.take_append_drop, List.length_take, Nat.min_eq_left h] at e
    rw [List.length_take, Nat.min_eq_left h] at hl
    rw [e, Nat.add_mul_mod_self_left, Nat.mod_eq_of_lt hl]
  · rw [List.take_of_length_le (by omega), Nat.mod_eq_of_lt (Nat.lt_of_lt_of_le (leb_lt l) (Nat.pow_le_pow_right (by decide) (by omega)))]
theorem leb_digit (l : List UInt8) (i : Nat) (h : i < l.length) : leb l / 256 ^ i % 256 = (l[i]).toNat := by
  rw [leb_div, List.drop_eq_getElem_cons h, leb]
  have := (l[i]).toNat_lt
  omega
theorem leb_inj {a b : List UInt8} (hl : a.length = b.length) (h : leb a = leb b) : a = b := by
  induction a generalizing b with
  | nil => cases b with | nil => rfl | cons => simp at hl
  | cons x a ih =>
    cases b with
    | nil => simp at hl
    | cons y b =>
      have h1 := x.toNat_lt
      have h2 := y.toNat_lt
      rw [leb, leb] at h
      rw [ih (by simpa using hl) (by omega), UInt8.toNat_inj.1 (show x.toNat = y.toNat by omega)]
theorem leb_zeros (n : Nat) : leb (List.replicate n 0) = 0 := by
  induction n with
  | zero => rfl
  | succ n ih => rw [List.replicate_succ, leb, ih]; rfl
theorem dgn_leb (l : List UInt8) : dgn 256 l.length (leb l) = l.map UInt8.toNat := by
  apply List.ext_getElem?
  intro i
  by_cases h : i < l.length
  · rw [dg_get _ _ _ _ h, leb_digit l i h, List.getElem?_map, List.getElem?_eq_getElem h]; rfl
  · rw [List.getElem?_eq_none (by rw [length_dgn]; omega), List.getElem?_eq_none (by simp; omega)]
/-- The n lowest bytes of a number. -/
def nbs (n v : Nat) : List UInt8 := (dgn 256 n v).map UInt8.ofNat
theorem length_nbs (n v : Nat) : (nbs n v).length = n := by rw [nbs, List.length_map, length_dgn]
theorem nbs_get (n v i : Nat) (h : i < n) : (nbs n v)[i]? = some (UInt8.ofNat (v / 256 ^ i % 256)) := by
  rw [nbs, List.getElem?_map, dg_get _ _ _ _ h]; rfl
theorem nbs_leb (l : List UInt8) : nbs l.length (leb l) = l := by
  rw [nbs, dgn_leb, List.map_map]
  conv => rhs; rw [← List.map_id l]
  apply List.map_congr_left
  intro x _
  exact UInt8.ofNat_toNat
theorem leb_nbs (n v : Nat) : leb (nbs n v) = v % 256 ^ n := by
  induction n with
  | zero => simp [nbs, dgn, leb, Nat.mod_one]
  | succ n ih =>
    rw [nbs, dg_succ, List.map_append, leb_app, mod_succ, ← ih, List.length_map, length_dgn]
    simp only [List.map_cons, List.map_nil, leb, nbs]
    rw [UInt8.toNat_ofNat']
    congr 2
    have := Nat.mod_lt (v / 256 ^ n) (show 0 < 256 by decide)
    omega
theorem nbs_mod (n v : Nat) : nbs n (v % 256 ^ n) = nbs n v := by rw [nbs, dg_mod]; rfl

/-- The limbs of 16 bytes. -/
def splitL (v : Nat) : L5 := ⟨v % 67108864, v / 67108864 % 67108864, v / 4503599627370496 % 67108864, v / 302231454903657293676544 % 67108864, v / 20282409603651670423947251286016⟩
theorem splitL_v (v : Nat) : (splitL v).v = v := by
  simp only [splitL, L5.v]
  omega
theorem splitL_in {v : Nat} (h : v < 340282366920938463463374607431768211456) : (splitL v).in26 ∧ (splitL v).e < 16777216 := by
  unfold L5.in26
  simp only [splitL]
  omega
/-- Bits cleared in the key's first half. -/
def c1 (x : Nat) : Nat := x % 4 + x / 256 * 256
def c2 (x : Nat) : Nat := x % 256 + x / 16384 * 16384
def c3 (x : Nat) : Nat := x % 16384 + x / 1048576 * 1048576
def c4 (x : Nat) : Nat := x % 1048576
def pclampL (v : Nat) : L5 := ⟨(splitL v).a, c1 (splitL v).b, c2 (splitL v).c, c3 (splitL v).d, c4 (splitL v).e⟩
theorem pclampL_in {v : Nat} (h : v < 340282366920938463463374607431768211456) : (pclampL v).in26 := by
  obtain ⟨⟨h0, h1, h2, h3, h4⟩, h5⟩ := splitL_in h
  unfold L5.in26 pclampL c1 c2 c3 c4
  simp only
  omega
def clampN (v : Nat) : Nat := (pclampL v).v
theorem and_two {x k r r' M q : Nat} (hx : x = 2 ^ k * q + r) (hr : r < 2 ^ k) (hr' : r' < 2 ^ k) : x &&& (2 ^ k * M + r') = 2 ^ k * (q &&& M) + (r &&& r') := by
  apply Nat.eq_of_testBit_eq
  intro j
  have h3 : r &&& r' < 2 ^ k := Nat.and_lt_two_pow _ hr'
  rw [hx, Nat.testBit_and, Nat.testBit_two_pow_mul_add _ hr, Nat.testBit_two_pow_mul_add _ hr', Nat.testBit_two_pow_mul_add _ h3]
  split
  · rw [Nat.testBit_and]
  · rw [Nat.testBit_and]
theorem and_low {x : Nat} (n : Nat) : x &&& (2 ^ n - 1) = x % 2 ^ n := Nat.and_two_pow_sub_one_eq_mod x n
theorem and_mid (x m k n : Nat) (hm : m ≤ k) (hx : x < 2 ^ (k + n)) : x &&& (2 ^ k * (2 ^ n - 1) + (2 ^ m - 1)) = x % 2 ^ m + x / 2 ^ k * 2 ^ k := by
  have hk : 2 ^ m ≤ 2 ^ k := Nat.pow_le_pow_right (by decide) hm
  have hm0 := Nat.two_pow_pos m
  rw [and_two (q := x / 2 ^ k) (r := x % 2 ^ k) (by rw [Nat.div_add_mod]) (Nat.mod_lt _ (Nat.two_pow_pos k)) (by omega), and_low, and_low, Nat.mod_mod_of_dvd _ (Nat.pow_dvd_pow 2 hm),
    Nat.mod_eq_of_lt (a := x / 2 ^ k) (by rw [Nat.div_lt_iff_lt_mul (Nat.two_pow_pos k), ← Nat.pow_add, Nat.add_comm n k]; exact hx), Nat.mul_comm, Nat.add_comm]
theorem and_c1 (x : Nat) (h : x < 67108864) : x &&& 67108611 = c1 x := and_mid x 2 8 18 (by decide) h
theorem and_c2 (x : Nat) (h : x < 67108864) : x &&& 67092735 = c2 x := and_mid x 8 14 12 (by decide) h
theorem and_c3 (x : Nat) (h : x < 67108864) : x &&& 66076671 = c3 x := and_mid x 14 20 6 (by decide) h
theorem and_c4 (x : Nat) : x &&& 1048575 = c4 x := and_low 20
/-- A digit of what is left. -/
def clD (i d : Nat) : Nat := if i % 4 = 3 then d % 16 else if i % 4 = 0 ∧ 0 < i then d / 4 * 4 else d
def cw (a w : Nat) : Nat := if a = 0 then w % 268435456 else w % 268435456 / 4 * 4
theorem clampN_words (v : Nat) : clampN v = cw 0 (v % 4294967296) + 4294967296 * cw 1 (v / 4294967296 % 4294967296) + 18446744073709551616 * cw 1 (v / 18446744073709551616 % 4294967296) + 79228162514264337593543950336 * cw 1 (v / 79228162514264337593543950336) := by
  have e1 : v / 67108864 % 67108864 = v % 4294967296 / 67108864 + 64 * (v / 4294967296 % 4294967296 % 1048576) := by omega
  have e2 : v / 4503599627370496 % 67108864 = v / 4294967296 % 4294967296 / 1048576 + 4096 * (v / 18446744073709551616 % 4294967296 % 16384) := by omega
  have e3 : v / 302231454903657293676544 % 67108864 = v / 18446744073709551616 % 4294967296 / 16384 + 262144 * (v / 79228162514264337593543950336 % 256) := by omega
  have e4 : v / 20282409603651670423947251286016 = v / 79228162514264337593543950336 / 256 := by omega
  have e0 : v % 67108864 = v % 4294967296 % 67108864 := by omega
  have b0 : v % 4294967296 < 4294967296 := Nat.mod_lt _ (by decide)
  have b1 : v / 4294967296 % 4294967296 < 4294967296 := Nat.mod_lt _ (by decide)
  have b2 : v / 18446744073709551616 % 4294967296 < 4294967296 := Nat.mod_lt _ (by decide)
  simp only [clampN, pclampL, splitL, L5.v, e0, e1, e2, e3, e4]
  generalize v % 4294967296 = w0 at *
  generalize v / 4294967296 % 4294967296 = w1 at *
  generalize v / 18446744073709551616 % 4294967296 = w2 at *
  generalize v / 79228162514264337593543950336 = w3 at *
  clear e0 e1 e2 e3 e4
  have x0 : w0 % 67108864 + 67108864 * c1 (w0 / 67108864 + 64 * (w1 % 1048576)) = w0 % 268435456 + 4294967296 * (w1 % 1048576 / 4 * 4) := by
    unfold c1; omega
  have x1 : c2 (w1 / 1048576 + 4096 * (w2 % 16384)) = w1 / 1048576 % 256 + 4096 * (w2 % 16384 / 4 * 4) := by
    unfold c2; omega
  have x2 : c3 (w2 / 16384 + 262144 * (w3 % 256)) = w2 / 16384 % 16384 + 262144 * (w3 % 256 / 4 * 4) := by
    unfold c3; omega
  have x3 : c4 (w3 / 256) = w3 / 256 % 1048576 := rfl
  rw [x1, x2, x3]
  have x4 : w0 % 67108864 + 67108864 * c1 (w0 / 67108864 + 64 * (w1 % 1048576)) = _ := x0
  rw [x0]
  simp only [cw, if_pos, if_neg (show ¬ (1 = 0) by decide)]
  clear x0 x1 x2 x3 x4
  omega
theorem dig_word (v q r : Nat) (hr : r < 4) : v / 4294967296 ^ q % 4294967296 / 256 ^ r % 256 = v / 256 ^ (4 * q + r) % 256 := by
  rw [Nat.pow_add, Nat.pow_mul, show (256 : Nat) ^ 4 = 4294967296 by decide, ← Nat.div_div_eq_div_mul]
  generalize v / 4294967296 ^ q = u
  have : r = 0 ∨ r = 1 ∨ r = 2 ∨ r = 3 := by omega
  rcases this with rfl | rfl | rfl | rfl <;> simp <;> omega
theorem cw_dig (a w r : Nat) (hr : r < 4) : cw a w / 256 ^ r % 256 = clD (4 * a + r) (w / 256 ^ r % 256) := by
  have h4 : (4 * a + r) % 4 = r := by omega
  unfold cw clD
  rw [h4]
  have : r = 0 ∨ r = 1 ∨ r = 2 ∨ r = 3 := by omega
  by_cases ha : a = 0
  · subst ha
    rcases this with rfl | rfl | rfl | rfl <;> simp <;> omega
  · rw [if_neg ha]
    rcases this with rfl | rfl | rfl | rfl <;> simp <;> (try rw [if_pos (by omega)]) <;> omega
theorem cw_lt (a w : Nat) : cw a w < 4294967296 := by unfold cw; split <;> omega
theorem cw_one (a w : Nat) (h : a ≠ 0) : cw 1 w = cw a w := by unfold cw; rw [if_neg (by decide), if_neg h]
theorem clampN_dig (v i : Nat) (hi : i < 16) (hv : v < 340282366920938463463374607431768211456) : clampN v / 256 ^ i % 256 = clD i (v / 256 ^ i % 256) := by
  obtain ⟨q, r, hq, hr, rfl⟩ : ∃ q r, q < 4 ∧ r < 4 ∧ i = 4 * q + r := ⟨i / 4, i % 4, by omega, by omega, by omega⟩
  rw [← dig_word (clampN v) q r hr, ← dig_word v q r hr]
  have h0 : v / 79228162514264337593543950336 % 4294967296 = v / 79228162514264337593543950336 := by omega
  have hw : clampN v / 4294967296 ^ q % 4294967296 = cw q (v / 4294967296 ^ q % 4294967296) := by
    rw [clampN_words, ← h0]
    have l0 := cw_lt 0 (v % 4294967296)
    have l1 := cw_lt 1 (v / 4294967296 % 4294967296)
    have l2 := cw_lt 1 (v / 18446744073709551616 % 4294967296)
    have l3 := cw_lt 1 (v / 79228162514264337593543950336 % 4294967296)
    have : q = 0 ∨ q = 1 ∨ q = 2 ∨ q = 3 := by omega
    rcases this with rfl | rfl | rfl | rfl
    · simp only [Nat.pow_zero, Nat.div_one]; omega
    · simp only [Nat.pow_one]; omega
    · rw [← cw_one 2 _ (by decide), show (4294967296 : Nat) ^ 2 = 18446744073709551616 by decide]; omega
    · rw [← cw_one 3 _ (by decide), show (4294967296 : Nat) ^ 3 = 79228162514264337593543950336 by decide]; omega
  rw [hw]
  exact cw_dig q _ r hr
theorem clampN_lt {v : Nat} : clampN v < 340282366920938463463374607431768211456 + 79228162514264337593543950336 * 0 := by
  rw [clampN_words]
  have l0 := cw_lt 0 (v % 4294967296)
  have l1 := cw_lt 1 (v / 4294967296 % 4294967296)
  have l2 := cw_lt 1 (v / 18446744073709551616 % 4294967296)
  have l3 := cw_lt 1 (v / 79228162514264337593543950336)
  omega

/-- The product's loops. -/
def tmP (X Y : Nat → Nat) (i j : Nat) : Nat := X i * (if i + j ≥ 5 then Y j * 5 else Y j)
def ixP (i j : Nat) : Nat := if i + j ≥ 5 then i + j - 5 else i + j
def innP (X Y f : Nat → Nat) (i : Nat) : Nat → Nat → Nat
  | 0 => f
  | j + 1 => upd (innP X Y f i j) (ixP i j) (innP X Y f i j (ixP i j) + tmP X Y i j)
def outP (X Y : Nat → Nat) : Nat → Nat → Nat
  | 0 => fun _ => 0
  | i + 1 => innP X Y (outP X Y i) i 5
theorem ixP_lt {i j : Nat} (hi : i < 5) (hj : j < 5) : ixP i j < 5 := by unfold ixP; split <;> omega
def TBP : Nat := 90071992547409920
theorem tmP_le {X Y : Nat → Nat} (hX : ∀ i, X i < 268435456) (hY : ∀ i, Y i < 67108864) (i j : Nat) : tmP X Y i j ≤ TBP := by
  have h1 := mul54 (hX i) (hY j)
  unfold tmP TBP
  split
  · rw [← Nat.mul_assoc]; omega
  · omega
theorem innP_le {X Y f : Nat → Nat} {i C : Nat} (hX : ∀ i, X i < 268435456) (hY : ∀ i, Y i < 67108864) (hf : ∀ k, f k ≤ C) (j k : Nat) : innP X Y f i j k ≤ C + j * TBP := by
  induction j generalizing k with
  | zero => rw [Nat.zero_mul]; exact hf k
  | succ j ih =>
    have h1 := ih k
    have h2 := ih (ixP i j)
    have h3 := tmP_le hX hY i j
    rw [innP, upd, Nat.succ_mul]
    split <;> omega
theorem outP_le {X Y : Nat → Nat} (hX : ∀ i, X i < 268435456) (hY : ∀ i, Y i < 67108864) (i k : Nat) : outP X Y i k ≤ 5 * i * TBP := by
  induction i generalizing k with
  | zero => exact Nat.zero_le _
  | succ i ih =>
    have := innP_le (i := i) hX hY ih 5 k
    rw [outP, show 5 * (i + 1) = 5 * i + 5 by omega, Nat.add_mul]
    exact this
theorem innP_lt {X Y : Nat → Nat} (hX : ∀ i, X i < 268435456) (hY : ∀ i, Y i < 67108864) {i : Nat} (hi : i < 5) {j : Nat} (hj : j ≤ 5) (k : Nat) : innP X Y (outP X Y i) i j k ≤ 2251799813685248000 := by
  have h1 := innP_le (i := i) hX hY (outP_le hX hY i) j k
  have h2 : 5 * i * TBP + j * TBP ≤ 25 * TBP := by
    rw [← Nat.add_mul]; exact Nat.mul_le_mul_right _ (by omega)
  unfold TBP at *
  omega
def getL (x : L5) : Nat → Nat
  | 0 => x.a
  | 1 => x.b
  | 2 => x.c
  | 3 => x.d
  | _ => x.e
theorem getL_28 {x : L5} (h : x.in28) (j : Nat) : getL x j < 268435456 := by
  obtain ⟨h1, h2, h3, h4, h5⟩ := h
  unfold getL
  split <;> assumption
theorem getL_26 {x : L5} (h : x.in26) (j : Nat) : getL x j < 67108864 := by
  obtain ⟨h1, h2, h3, h4, h5⟩ := h
  unfold getL
  split <;> assumption
theorem outP_end (x y : L5) : rowF (outP (getL x) (getL y) 5) = rowF (getL (mulD x y)) := by
  have h : ∀ k, k < 5 → outP (getL x) (getL y) 5 k = getL (mulD x y) k := by
    intro k hk
    have : k = 0 ∨ k = 1 ∨ k = 2 ∨ k = 3 ∨ k = 4 := by omega
    rcases this with rfl | rfl | rfl | rfl | rfl <;> simp [outP, innP, upd, ixP, tmP, getL, mulD, ← Nat.mul_assoc] <;> (have := Nat.mul_assoc 5 x.e y.e; omega)
  exact rowF_congr h
/-- The steps of carry. -/
def cvN (X : Nat → Nat) : Nat → Nat
  | 0 => 0
  | j + 1 => (X j + cvN X j) / 67108864
def cvG (X : Nat → Nat) (j : Nat) : Nat := (X j + cvN X j) % 67108864
theorem cvN_le (X : Nat → Nat) (h : ∀ j, X j < 4611686018427387904) (j : Nat) : cvN X j < 137438953472 := by
  induction j with
  | zero => show 0 < _; decide
  | succ j ih => have := h j; rw [cvN]; omega
theorem carL_row (x : L5) : rowF (upd (cvG (getL x)) 0 (cvG (getL x) 0 + 5 * cvN (getL x) 5)) = rowF (getL (carL x)) := by
  refine rowF_congr fun k hk => ?_
  have : k = 0 ∨ k = 1 ∨ k = 2 ∨ k = 3 ∨ k = 4 := by omega
  rcases this with rfl | rfl | rfl | rfl | rfl <;> simp [upd, cvG, cvN, getL, carL, cov, crs]
theorem carL_in {x : L5} (h : x.in28) : (carL x).a < 67108960 ∧ (carL x).b < 67108864 ∧ (carL x).c < 67108864 ∧ (carL x).d < 67108864 ∧ (carL x).e < 67108864 := by
  obtain ⟨h0, h1, h2, h3, h4⟩ := h
  simp only [carL, cov, crs]
  omega
theorem mulL_row (h r : L5) : rowF (upd (upd (getL (carL (mulD h r))) 1 ((carL (mulD h r)).b + (carL (mulD h r)).a / 67108864)) 0 ((carL (mulD h r)).a % 67108864)) = rowF (getL (mulL h r)) := by
  refine rowF_congr fun k hk => ?_
  have : k = 0 ∨ k = 1 ∨ k = 2 ∨ k = 3 ∨ k = 4 := by omega
  rcases this with rfl | rfl | rfl | rfl | rfl <;> simp [upd, getL, mulL]
/-- The steps of least: five more on the lowest limb. -/
theorem plus5_row (x : L5) : rowF (cvG (upd (getL x) 0 (x.a + 5))) = rowF (getL (plus5 x).2) ∧ cvN (upd (getL x) 0 (x.a + 5)) 5 = (plus5 x).1 := by
  refine ⟨rowF_congr fun k hk => ?_, ?_⟩
  · have : k = 0 ∨ k = 1 ∨ k = 2 ∨ k = 3 ∨ k = 4 := by omega
    rcases this with rfl | rfl | rfl | rfl | rfl <;> simp [upd, cvG, cvN, getL, plus5, cov, crs]
  · simp [upd, cvN, getL, plus5, cov]

/-- The tag: h behind k blocks. -/
def blkP (l : List UInt8) (k : Nat) : List UInt8 := (l.drop (16 * k)).take 16
def stepP (r h : Nat) (b : List UInt8) : Nat := (h + (leb b + 256 ^ b.length)) * r % P130
def hP (r : Nat) (l : List UInt8) : Nat → Nat
  | 0 => 0
  | k + 1 => stepP r (hP r l k) (blkP l k)
def tagB (key s : ByteArray) : ByteArray := bs (nbs 16 (hP (clampN (leb ((ls key).take 16))) (ls s) ((s.size + 15) / 16) + leb ((ls key).drop 16)))
theorem size_tagB (key s : ByteArray) : (tagB key s).size = 16 := by rw [tagB, size_bs, length_nbs]
theorem hP_lt (r : Nat) (l : List UInt8) (k : Nat) : hP r l k < P130 := by
  cases k with
  | zero => show 0 < P130; decide
  | succ k => exact Nat.mod_lt _ (by decide)
end MS

/-
  What the tag is at some keys: plain facts. No program stands in them.
-/
namespace MS
theorem clampN_zero : clampN 0 = 0 := by decide +kernel
theorem clampN_one : clampN 1 = 1 := by decide +kernel
theorem hP_zero (l : List UInt8) (k : Nat) : hP 0 l k = 0 := by
  cases k with
  | zero => rfl
  | succ k => rw [hP, stepP, Nat.mul_zero, Nat.zero_mod]
theorem half_lt (key : ByteArray) (h : key.size = 32) : leb ((ls key).drop 16) < 256 ^ 16 := by
  have := leb_lt ((ls key).drop 16)
  rwa [List.length_drop, length_ls, h] at this
theorem nbs_half (key : ByteArray) (h : key.size = 32) : bs (nbs 16 (leb ((ls key).drop 16))) = key.extract 16 32 := by
  have hl : ((ls key).drop 16).length = 16 := by rw [List.length_drop, length_ls, h]
  have := nbs_leb ((ls key).drop 16)
  rw [hl] at this
  rw [this]
  apply ls_inj
  rw [ls_bs, ls_extract, List.take_of_length_le (by rw [hl]; decide)]
/-- Of no bytes the tag is the key's second half. -/
theorem tag_none (key : ByteArray) (h : key.size = 32) : tagB key ByteArray.empty = key.extract 16 32 := by
  rw [tagB, show (ByteArray.empty.size + 15) / 16 = 0 from rfl, hP, Nat.zero_add, nbs_half key h]
/-- By a first half of noughts it is that, whatever the bytes are. -/
theorem tag_zero (key key' s : ByteArray) (h : key.size = 32) (hk : ls key' = List.replicate 16 0 ++ (ls key).drop 16) : tagB key' s = key.extract 16 32 := by
  have e1 : (ls key').take 16 = List.replicate 16 0 := by rw [hk, List.take_left' (by simp)]
  have e2 : (ls key').drop 16 = (ls key).drop 16 := by rw [hk, List.drop_left' (by simp)]
  rw [tagB, e1, e2, leb_zeros, clampN_zero, hP_zero, Nat.zero_add, nbs_half key h]
/-- What is summed ahead of the second half. -/
def tagH (key s : ByteArray) : Nat := hP (clampN (leb ((ls key).take 16))) (ls s) ((s.size + 15) / 16)
theorem tag_sum (key s : ByteArray) : tagB key s = bs (nbs 16 (tagH key s + leb ((ls key).drop 16))) := rfl
theorem tag_first (key key' s : ByteArray) (h : key.size = 32) (hk : ls key' = (ls key).take 16 ++ List.replicate 16 0) : tagB key' s = bs (nbs 16 (tagH key s)) := by
  have hl : ((ls key).take 16).length = 16 := by rw [List.length_take, length_ls, h]; rfl
  have e1 : (ls key').take 16 = (ls key).take 16 := by rw [hk, List.take_left' hl]
  have e2 : (ls key').drop 16 = List.replicate 16 0 := by rw [hk, List.drop_left' hl]
  rw [tagB, e1, e2, leb_zeros, Nat.add_zero]
  rfl
/-- By a key of 1 and noughts. -/
theorem tag_small (key s : ByteArray) (hk : ls key = 1 :: List.replicate 31 0) (h0 : 0 < s.size) (h15 : s.size ≤ 15) : tagB key s = bs (ls s ++ 1 :: List.replicate (15 - s.size) 0) := by
  have hl := length_ls s
  have e1 : (ls key).take 16 = 1 :: List.replicate 15 0 := by rw [hk]; rfl
  have e2 : (ls key).drop 16 = List.replicate 16 0 := by rw [hk]; rfl
  have e3 : leb (1 :: List.replicate 15 0) = 1 := by rw [leb, leb_zeros]; rfl
  have e4 : (s.size + 15) / 16 = 1 := by omega
  have e5 : blkP (ls s) 0 = ls s := by rw [blkP, Nat.mul_zero, List.drop_zero, List.take_of_length_le (by omega)]
  have e6 : leb (ls s ++ 1 :: List.replicate (15 - s.size) 0) = leb (ls s) + 256 ^ s.size := by
    rw [leb_app, leb, leb_zeros, hl]
    show leb (ls s) + 256 ^ s.size * 1 = _
    rw [Nat.mul_one]
  have b1 := leb_lt (ls s)
  rw [hl] at b1
  have b2 : 256 ^ s.size ≤ 256 ^ 15 := Nat.pow_le_pow_right (by decide) h15
  rw [show (256 : Nat) ^ 15 = 1329227995784915872903807060280344576 by decide] at b2
  rw [tagB, e1, e2, e3, leb_zeros, clampN_one, e4, hP, hP, stepP, e5, hl, Nat.zero_add, Nat.mul_one, Nat.add_zero, Nat.mod_eq_of_lt (by unfold P130; omega), ← e6]
  congr 1
  have := nbs_leb (ls s ++ 1 :: List.replicate (15 - s.size) 0)
  rwa [List.length_append, List.length_cons, List.length_replicate, hl, show s.size + (15 - s.size + 1) = 16 by omega] at this
end MS

/-
  mailsackref05.Turn: the walk; chacha.Turn, refused.
-/
namespace Go.Proofs.Ytkfacnegfkgcgaa
open Go.RowKit MS

set_option maxHeartbeats 400000 in
theorem turn_no (key nonce : ByteArray) (c : Int) (s : ByteArray) (h : key.size ≠ 32 ∨ nonce.size ≠ 12) (w : World) :
    Calls Try.prog 23 #[.string key, .string nonce, .int .u32 c, .string s] w fun e w' => e = .returned (.tuple #[.string ⟨#[]⟩, .bool false]) ∧ Below w.heap.size w w' := by
  have H := Lib.hid (begin_no key nonce c h)
  clear h
  go_enter Try.func23, Try.ntmps23
  go_wp2_with fail
  refine (H.out _).mono ?_
  rintro e w1 ⟨rfl, hb1⟩
  go_wp2_with fail
  go_ret2
  refine ⟨rfl, ?_⟩
  repeat (first | (with_reducible exact Below.refl _ _) | (with_reducible refine below_setCell ?_ (by simp) _) | (with_reducible apply below_alloc) | (with_reducible refine below_chain ?_ hb1))

theorem wpAny_tailCh {P : Program} {md : Region.Mode} {Q : Exit → Act → World → Prop} {l : List Oper} {listed : Array Bool} {a : Act} {w : World} (n g : Nat) (hB : Region.seqB md l.toArray g n listed = true) (hg : (l.drop n).length = g)
    (h : wpList P l.toArray Q (l.drop n) a w) : wpAny P md l.toArray Q g listed a w := by
  subst hg
  exact wpAny_of_seq (l.drop n) n listed a w (fun j => by simp [List.getElem?_drop]) hB h

theorem conv_nilCh (w : World) : (convert 37 9 (.slice none 0 0)).run Try.prog w = .ok (.string ⟨#[]⟩) w := by
  rw [run_convert_bytes_string w 37 9 5 _ _ _ Try.underlying37 Try.underlying5 Try.underlying9]
  simp [Conv.bytesToString, Sem.run_pure]
  rfl
/-- The first m blocks of the stream. -/
def sl (k n : ByteArray) (c : W32) (m : Nat) : List UInt8 := (List.range (64 * m)).map (ks k n c)
theorem length_sl (k n : ByteArray) (c : W32) (m : Nat) : (sl k n c m).length = 64 * m := by simp [sl]
theorem length_blkB (S : Array W32) : (ls (blkB S)).length = 64 := by
  have := size_orow (zz (drs 10 S) S) 16
  rw [show orow (zz (drs 10 S) S) 16 = blk S from rfl, blk_blkB] at this
  simpa using this
theorem size_blkB (S : Array W32) : (blkB S).size = 64 := by
  have h := length_blkB S
  generalize blkB S = b at h
  exact h
theorem sl_succ (k n : ByteArray) (c : W32) (m : Nat) : bs (sl k n c m) ++ blkB (iw k n (c + BitVec.ofNat 32 m)) = bs (sl k n c (m + 1)) := by
  apply ls_inj
  rw [ls_append, ls_bs, ls_bs]
  apply List.ext_getElem?
  intro i
  have hb := length_blkB (iw k n (c + BitVec.ofNat 32 m))
  rw [List.getElem?_append, length_sl]
  by_cases h : i < 64 * m
  · rw [if_pos h]
    simp [sl, h, show i < 64 * (m + 1) by omega]
  · rw [if_neg h]
    by_cases h2 : i < 64 * (m + 1)
    · obtain ⟨j, rfl⟩ : ∃ j, i = 64 * m + j := ⟨i - 64 * m, by omega⟩
      simp [sl, h2, ks_at k n c m j (by omega), hb, show j < 64 by omega]
    · rw [List.getElem?_eq_none (by omega), List.getElem?_eq_none (by rw [length_sl]; omega)]
def pre (l : List UInt8) (f : Nat → UInt8) (j : Nat) : List UInt8 := (List.range j).map fun i => l.getD i 0 ^^^ f i
theorem pre_succ (l : List UInt8) (f : Nat → UInt8) (j : Nat) : pre l f (j + 1) = pre l f j ++ [l.getD j 0 ^^^ f j] := by
  simp [pre, List.range_succ]
theorem ls_getCh (s : ByteArray) (j : Nat) (h : j < s.size) : s[j]'h = (ls s).getD j 0 := by
  have hl : j < s.data.toList.length := by simpa using h
  unfold ls
  rw [List.getD_eq_getElem?_getD, List.getElem?_eq_getElem hl]
  rfl
theorem strm_byte (k n : ByteArray) (c : W32) (m : Nat) (b : ByteArray) (hb : b = bs (sl k n c m)) (j : Nat) (h : j < b.size) : b[j]'h = ks k n c j := by
  rw [ls_getCh b j h]
  subst hb
  rw [size_bs, length_sl] at h
  rw [ls_bs, sl]
  generalize ks k n c = f
  simp [h]
def strLenCh : Value → Nat
  | .string b => b.size
  | _ => 0

attribute [local go_sem] w_succ b_xor
set_option maxRecDepth 100000 in
set_option maxHeartbeats 500000 in
theorem rturn (k n : ByteArray) (c : W32) (s : ByteArray) (w : World) (hk : k.size = 32) (hn : n.size = 12) (hs : s.size ≤ 10000) :
    Calls Try.prog 24 #[.string k, .string n, .int .u32 (wv c), .string s] w fun e w' => e = .returned (.string (bs (trn (ls s) (ks k n c)))) ∧ Below w.heap.size w w' := by
  obtain ⟨i8, hj0, hy0, hy1, hy2⟩ : ∃ i, Try.prog.info? 5 = some i ∧ i.zero = some (.int .u8 0) ∧ i.size = 1 ∧ i.bytes = 1 := ⟨_, rfl, rfl, rfl, rfl⟩
  have R := Lib.hid (fun c w => rblock k n c w hk hn)
  have HS := Lib.hid hs
  clear hk hn hs
  go_enter Try.func24, Try.ntmps24
  go_wp2_with fail
  go_loopw [2, 9] (fun cv st wr => ∃ (m : Nat) (b : ByteArray), cv = .int .u32 (wv (c + BitVec.ofNat 32 m)) ∧ st = .string b ∧ b = bs (sl k n c m) ∧ (m = 0 ∨ 64 * m < s.size + 64) ∧ Below w.heap.size w wr) (fun _ st _ => s.size - strLenCh st)
  case atStart => exact ⟨0, bs (sl k n c 0), by rw [show c + BitVec.ofNat 32 0 = c from BitVec.add_zero c], rfl, rfl, .inl rfl, Below.refl _ _⟩
  case round =>
    obtain ⟨m, b, rfl, rfl, hb, hm, bel⟩ := hrel
    have hbs : b.size = 64 * m := by
      have : (ls b).length = 64 * m := by rw [hb, ls_bs, length_sl]
      exact this
    have HB := Lib.hid hb
    have HBL := Lib.hid bel
    have HM := Lib.hid hm
    have HBS := Lib.hid hbs
    clear hb bel hm
    by_cases hlt : 64 * m < s.size
    · have hi : (b.size : Int) < s.size := by omega
      clear hbs
      go_wp2_with fail
      refine (R.out _ _).mono ?_
      rintro e w2 ⟨rfl, hb2⟩
      have h64 : (blkB (iw k n (c + BitVec.ofNat 32 m))).size = 64 := size_blkB _
      have hsum : b.size + (blkB (iw k n (c + BitVec.ofNat 32 m))).size ≤ 9223372036854775807 := by have := HS.out; have := HBS.out; omega
      have HB2 := Lib.hid hb2
      generalize hbk : blkB (iw k n (c + BitVec.ofNat 32 m)) = bk at h64 hsum
      have HBK := Lib.hid hbk
      clear hb2 hbk
      go_wp2_with fail
      go_roundw
      case rel =>
        exact ⟨m + 1, b ++ bk, by rw [w_succ, count_up], rfl, by rw [HB.out, ← HBK.out, sl_succ], .inr (by omega), HBL.out.trans (HB2.out.mono HBL.out.size)⟩
      case measure =>
        show s.size - (b ++ bk).size < s.size - b.size
        rw [ByteArray.size_append]
        omega
    · have hi : ¬ ((b.size : Int) < s.size) := by omega
      have hle : s.size ≤ b.size := by omega
      have HLE := Lib.hid hle
      clear hbs hlt hle
      go_wp2_with fail
      go_loopw [10, 11] (fun v i wr => ∃ j : Nat, j ≤ s.size ∧ i = .int .i64 j ∧ wr.ownsRow w.heap.size 5 1 v j (vlsCh (pre (ls s) (ks k n c) j)) ∧ (j = 0 → v = .slice none 0 0) ∧ Below w.heap.size w wr) (fun _ i _ => s.size - (intOf i).toNat)
      case atStart => exact ⟨0, by omega, rfl, ⟨rfl, .inl ⟨rfl, rfl⟩⟩, fun _ => rfl, HBL.out⟩
      case round =>
        obtain ⟨j, hj, rfl, hown, hnil, hnx⟩ := hrel
        have HNIL := Lib.hid hnil
        clear hnil
        have HOWN := Lib.hid hown
        have HNX := Lib.hid hnx
        clear hown hnx hi
        by_cases hjN : j < s.size
        · have ji : (j : Int) < s.size := Int.ofNat_lt.2 hjN
          have hjb : j < b.size := Nat.lt_of_lt_of_le hjN HLE.out
          have jb : (j : Int) < b.size := Int.ofNat_lt.2 hjb
          have jn : (0 : Int) ≤ j := Int.natCast_nonneg j
          have jw : (j : Int) < 10000 := by have := HS.out; omega
          have HJN := Lib.hid hjN
          have HJB := Lib.hid hjb
          clear hjb
          go_wp2_with fail
          refine wp_region_any (by kernel_rfl) ?_
          change wpAny _ _ _ _ _ _ _ (World.drew _)
          refine wpAny_take_atCh (i := 0) (d := 31) (v := u10) rfl (by kernel_rfl) (by kernel_rfl) (by kernel_rfl) (fun _ _ _ h => h) rfl (Or.inl ⟨by rfl, by intro w; go_simp⟩) ?_
          simp only [Act.put, List.setIfInBounds_toArray, List.set_cons_zero, List.set_cons_succ]
          refine wpAny_quiet_mid (fun w' => ∃ k, w' = wr.drewN k) #[true, true, true, true, true, true, true, true, false, false, false] 1 7 3 (by kernel_rfl) (by kernel_rfl) (by kernel_rfl) (by kernel_rfl) rfl ⟨1, rfl⟩ ?_
          simp only [List.take_succ_cons, List.take_zero, List.drop_succ_cons, List.drop_zero]
          repeat (go_big_quiet_step (fail))
          refine wpQuiet_nil ?_
          intro _ hw'
          obtain ⟨kk, hw''⟩ := hw'
          subst hw''
          refine wpAny_tailCh 8 3 (by kernel_rfl) rfl ?_
          simp only [List.drop_succ_cons, List.drop_zero]
          have HBQ := Lib.hid (show Below _ _ (wr.drewN kk) from ⟨HNX.out.os, HNX.out.tape, HNX.out.output, HNX.out.size, HNX.out.block⟩)
          have HOQ := Lib.hid (show (wr.drewN kk).ownsRow _ _ _ _ _ _ from HOWN.out)
          have hs0 : _ ≤ (wr.drewN kk).heap.size := HNX.out.size
          generalize wr.drewN kk = wq at HBQ HOQ hs0 ⊢
          have HA := Lib.hid (HOQ.out.alloc (.cells #[.int .u8 ((s[j]'hjN ^^^ b[j]'HJB.out).toNat : Int)] 5 (0, 0)))
          have HM := Lib.hid (show j + 1 ≤ maxLen by have := HS.out; unfold maxLen; omega)
          have HN := Lib.hid (show (j + 1) * 1 ≤ 140737488355328 by have := HS.out; omega)
          have hxv : Value.int .u8 (((s[j]'hjN).toNat ^^^ (b[j]'HJB.out).toNat : Nat) : Int) = Value.int .u8 ((s[j]'hjN ^^^ b[j]'HJB.out).toNat : Int) := by simp
          rw [hxv]
          have hnew : s[j]'hjN ^^^ b[j]'HJB.out = (ls s).getD j 0 ^^^ ks k n c j := by
            rw [ls_getCh s j hjN, strm_byte k n c m b HB.out j HJB.out]
          generalize s[j]'hjN ^^^ b[j]'HJB.out = x at HA hnew ⊢
          have HNEW := Lib.hid hnew
          clear hxv hnew
          go_wp2_with (at_builtin; refine wpList_append_own _ rfl (.tmp 31) (.tmp 39) 37 rfl _ 5 i8 (.int .u8 0) 1 1 Try.underlying37 hj0 hy0 hy1 hy2 rfl (by decide) _ _ _ rfl HA.out ⟨wq.heap.size, 0, none⟩ 1 1 [.int .u8 (x.toNat : Int)] rfl rfl (one_cellCh wq _ _) (one_oneCh _ rfl) HM.out HN.out (le_allocCh hs0 _) ?_)
          intro v1 w1 h1 h2 h3
          have HB1 := Lib.hid (below_appCh HBQ.out _ _ _ _ _ HOQ.out h2)
          have HO1 := Lib.hid h1
          clear h1 h2 h3 hs0
          go_wp2_with fail
          go_roundw
          case rel =>
            refine ⟨j + 1, by omega, by go_num, ?_, fun h => by omega, HB1.out⟩
            rw [pre_succ, vls_appCh, ← HNEW.out]
            exact HO1.out
          case measure => simp [intOf]; omega
        · have ji : ¬ ((j : Int) < s.size) := by omega
          have hjs : j = s.size := by omega
          have htr : pre (ls s) (ks k n c) s.size = trn (ls s) (ks k n c) := by rw [pre, trn, length_ls]
          have HL := Lib.hid HNX.out
          by_cases h0 : s.size = 0
          · obtain rfl := HNIL.out (by omega)
            have he : bs (trn (ls s) (ks k n c)) = ⟨#[]⟩ := by
              rw [← htr, h0]
              rfl
            have HE := Lib.hid he
            have hcv := conv_nilCh wr
            clear he htr h0 hjs HOWN HNX HNIL
            go_wp2_with fail
            go_ret
            exact ⟨by rw [HE.out]; rfl, HL.out⟩
          · have HO6 := HOWN.out
            rw [hjs, htr] at HO6
            obtain ⟨go, capo, rfl, _, _⟩ := HO6.form (by omega)
            have hcv := conv_outCh (trn (ls s) (ks k n c)) s.size (by rw [length_trn, length_ls]) HO6
            clear HO6 hjs htr HOWN HNX HNIL h0 hjN
            go_wp2_with fail
            go_ret
            exact ⟨rfl, HL.out⟩
end Go.Proofs.Ytkfacnegfkgcgaa

/-
  mailsacklaw05.ChachaTurns, ChachaTwice: the walks.
-/
namespace Go.Proofs.Ytkfacnegfkgcgaa
open Go.RowKit MS

theorem trn_trn (l : List UInt8) (f : Nat → UInt8) : trn (trn l f) f = l := by
  apply List.ext_getElem?
  intro i
  by_cases h : i < l.length
  · have : i < (trn l f).length := by rw [length_trn]; exact h
    rw [trn, List.getElem?_map, List.getElem?_range this, Option.map_some, List.getElem?_eq_getElem h]
    have e : (trn l f).getD i 0 = l[i] ^^^ f i := by simp [trn, h]
    rw [e, UInt8.xor_assoc, UInt8.xor_self, UInt8.xor_zero]
  · rw [List.getElem?_eq_none (by rw [length_trn, length_trn]; omega), List.getElem?_eq_none (by omega)]
theorem turn_back (s : ByteArray) (f : Nat → UInt8) : bs (trn (ls (bs (trn (ls s) f))) f) = s := by
  rw [ls_bs, trn_trn, bs_ls]
theorem ks_next (k n : ByteArray) (c : W32) (i : Nat) : ks k n (c + 1) i = ks k n c (64 + i) := by
  unfold ks
  have e1 : (64 + i) / 64 = i / 64 + 1 := by omega
  have e2 : (64 + i) % 64 = i % 64 := by omega
  rw [e1, e2, ← count_up, BitVec.add_assoc, BitVec.add_comm 1, ← BitVec.add_assoc]
theorem turn_later (k n : ByteArray) (c : W32) (s : ByteArray) (h : 64 ≤ s.size) :
    bs (trn (ls (s.extract 64 s.size)) (ks k n (c + 1))) = (bs (trn (ls s) (ks k n c))).extract 64 s.size := by
  apply ls_inj
  rw [ls_bs, ls_extract, ls_extract, ls_bs]
  have hl := length_ls s
  apply List.ext_getElem?
  intro i
  have e : ((ls s).drop 64).take (s.size - 64) = (ls s).drop 64 := List.take_of_length_le (by simp [hl])
  have e2 : ((trn (ls s) (ks k n c)).drop 64).take (s.size - 64) = (trn (ls s) (ks k n c)).drop 64 := List.take_of_length_le (by simp [length_trn, hl])
  rw [e, e2, List.getElem?_drop]
  by_cases hi : i < s.size - 64
  · have h1 : i < ((ls s).drop 64).length := by simp [hl]; omega
    have h2 : 64 + i < (ls s).length := by omega
    rw [trn, trn, List.getElem?_map, List.getElem?_map, List.getElem?_range h1, List.getElem?_range h2, Option.map_some, Option.map_some, ks_next]
    congr 2
    simp [List.getD_eq_getElem?_getD]
  · rw [List.getElem?_eq_none (by rw [length_trn]; simp [hl]; omega), List.getElem?_eq_none (by rw [length_trn]; omega)]

set_option maxHeartbeats 800000 in
theorem turns_any (k n : ByteArray) (c : W32) (s : ByteArray) (w : World) :
    Calls Try.prog 6 #[.string k, .string n, .int .u32 (wv c), .string s] w fun e w' => e = .returned (.bool true) ∧ Below w.heap.size w w' := by
  have A := Lib.hid awake05_any
  have N := Lib.hid (fun h w => turn_no k n (wv c) s h w)
  have Y := Lib.hid (fun w h1 h2 => turn_yes k n c s w h1 h2)
  have R := Lib.hid (fun w h1 h2 h3 => rturn k n c s w h1 h2 h3)
  by_cases h1 : k.size > 100
  · have t1 : decide ((k.size : Int) > 100) = true := by simp; omega
    go_enter Try.func6, Try.ntmps6
    go_wp2_with fail
    refine (A.out _).mono ?_
    rintro e w1 ⟨rfl, hb1⟩
    go_wp2_with fail
    go_ret
    exact ⟨rfl, hb1⟩
  · by_cases h2 : n.size > 100
    · have t1 : decide ((n.size : Int) > 100) = true := by simp; omega
      go_enter Try.func6, Try.ntmps6
      go_wp2_with fail
      refine (A.out _).mono ?_
      rintro e w1 ⟨rfl, hb1⟩
      go_wp2_with fail
      go_ret
      exact ⟨rfl, hb1⟩
    · by_cases h3 : s.size > 1024
      · have t1 : decide ((s.size : Int) > 1024) = true := by simp; omega
        go_enter Try.func6, Try.ntmps6
        go_wp2_with fail
        refine (A.out _).mono ?_
        rintro e w1 ⟨rfl, hb1⟩
        go_wp2_with fail
        go_ret
        exact ⟨rfl, hb1⟩
      · by_cases h : k.size ≠ 32 ∨ n.size ≠ 12
        · have H := Lib.hid h
          go_enter Try.func6, Try.ntmps6
          by_cases h1 : k.size = 32
          · have h2 : n.size ≠ 12 := by omega
            have t1 : ((k.size : Int) != 32) = false := by simp; omega
            have t2 : ((n.size : Int) != 12) = true := by simp; omega
            clear h h1 h2
            go_wp2_with fail
            refine (N.out H.out _).mono ?_
            rintro e w1 ⟨rfl, hb1⟩
            go_wp2_with fail
            refine (A.out _).mono ?_
            rintro e w2 ⟨rfl, hb2⟩
            go_wp2_with fail
            go_ret
            exact ⟨rfl, hb1.trans (hb2.mono hb1.size)⟩
          · have t1 : ((k.size : Int) != 32) = true := by simp; omega
            clear h h1
            go_wp2_with fail
            refine (N.out H.out _).mono ?_
            rintro e w1 ⟨rfl, hb1⟩
            go_wp2_with fail
            refine (A.out _).mono ?_
            rintro e w2 ⟨rfl, hb2⟩
            go_wp2_with fail
            go_ret
            exact ⟨rfl, hb1.trans (hb2.mono hb1.size)⟩
        · have H1 := Lib.hid (show k.size = 32 by omega)
          have H2 := Lib.hid (show n.size = 12 by omega)
          have H3 := Lib.hid (show s.size ≤ 10000 by omega)
          have t1 : ((k.size : Int) != 32) = false := by have := H1.out; simp; omega
          have t2 : ((n.size : Int) != 12) = false := by have := H2.out; simp; omega
          clear h
          go_enter Try.func6, Try.ntmps6
          go_wp2_with fail
          refine (Y.out _ H1.out H2.out).mono ?_
          rintro e w1 ⟨rfl, hb1⟩
          go_wp2_with fail
          refine (R.out _ H1.out H2.out H3.out).mono ?_
          rintro e w2 ⟨rfl, hb2⟩
          go_wp2_with fail
          refine (A.out _).mono ?_
          rintro e w3 ⟨rfl, hb3⟩
          go_wp2_with fail
          go_ret
          exact ⟨rfl, (hb1.trans (hb2.mono hb1.size)).trans (hb3.mono (Nat.le_trans hb1.size hb2.size))⟩

set_option maxHeartbeats 800000 in
theorem twice_any (k n : ByteArray) (c : W32) (s : ByteArray) (w : World) :
    Calls Try.prog 7 #[.string k, .string n, .int .u32 (wv c), .string s] w fun e w' => e = .returned (.bool true) ∧ Below w.heap.size w w' := by
  have A := Lib.hid awake05_any
  by_cases h1 : k.size = 32
  · have t1 : ((k.size : Int) != 32) = false := by simp; omega
    have H1 := Lib.hid h1
    clear h1
    by_cases h2 : n.size = 12
    · have t2 : ((n.size : Int) != 12) = false := by simp; omega
      have H2 := Lib.hid h2
      clear h2
      by_cases h3 : s.size > 4096
      · go_enter Try.func7, Try.ntmps7
        go_wp2_with fail
        refine (A.out _).mono ?_
        rintro e w1 ⟨rfl, hb1⟩
        go_wp2_with fail
        go_ret
        exact ⟨rfl, hb1⟩
      · have Y := Lib.hid (fun w => turn_yes k n c s w H1.out H2.out)
        have Y2 := Lib.hid (fun w => turn_yes k n c (bs (trn (ls s) (ks k n c))) w H1.out H2.out)
        have Y3 := Lib.hid (fun w => turn_yes k n (c + 1) (s.extract 64 s.size) w H1.out H2.out)
        rw [turn_back] at Y2
        have hsz : (bs (trn (ls s) (ks k n c))).size = s.size := by rw [size_bs, length_trn, length_ls]
        have HT := Lib.hid (turn_later k n c s)
        generalize hf : ks k n c = f at *
        generalize hT : bs (trn (ls s) f) = T at *
        clear hf hT
        go_enter Try.func7, Try.ntmps7
        go_wp2_with fail
        refine (Y.out _).mono ?_
        rintro e w1 ⟨rfl, hb1⟩
        go_wp2_with fail
        refine (Y2.out _).mono ?_
        rintro e w2 ⟨rfl, hb2⟩
        have HB := Lib.hid (hb1.trans (hb2.mono hb1.size))
        clear hb1 hb2
        by_cases h64 : s.size < 64
        · have hi : (s.size : Int) < 64 := by omega
          go_wp2_with fail
          refine (A.out _).mono ?_
          rintro e w3 ⟨rfl, hb3⟩
          go_wp2_with fail
          go_ret
          exact ⟨rfl, HB.out.trans (hb3.mono HB.out.size)⟩
        · have hi : ¬ ((s.size : Int) < 64) := by omega
          have hT := HT.out (by omega)
          rw [hT] at Y3
          clear hT HT
          go_wp2_with fail
          rw [w_succ]
          refine (Y3.out _).mono ?_
          rintro e w3 ⟨rfl, hb3⟩
          have HB3 := Lib.hid (HB.out.trans (hb3.mono HB.out.size))
          clear hb3
          go_wp2_with fail
          refine (A.out _).mono ?_
          rintro e w4 ⟨rfl, hb4⟩
          go_wp2_with fail
          go_ret
          exact ⟨rfl, HB3.out.trans (hb4.mono HB3.out.size)⟩
    · have t2 : ((n.size : Int) != 12) = true := by simp; omega
      clear h2
      go_enter Try.func7, Try.ntmps7
      go_wp2_with fail
      refine (A.out _).mono ?_
      rintro e w1 ⟨rfl, hb1⟩
      go_wp2_with fail
      go_ret
      exact ⟨rfl, hb1⟩
  · have t1 : ((k.size : Int) != 32) = true := by simp; omega
    clear h1
    go_enter Try.func7, Try.ntmps7
    go_wp2_with fail
    refine (A.out _).mono ?_
    rintro e w1 ⟨rfl, hb1⟩
    go_wp2_with fail
    go_ret
    exact ⟨rfl, hb1⟩
end Go.Proofs.Ytkfacnegfkgcgaa

/-
  The sealing of bytes: plain facts. No program stands in them but for the words of chacha and poly.
-/
namespace Go.Proofs.Ytkfacnegfkgcgaa
open Go.RowKit MS

/-- Up to whole blocks of 16. -/
def alZ (n : Nat) : Nat := (16 - n % 16) % 16
def alignL (l : List UInt8) : List UInt8 := l ++ List.replicate (alZ l.length) 0
theorem length_alignL (l : List UInt8) : (alignL l).length = l.length + alZ l.length := by simp [alignL]
theorem alZ_le (n : Nat) : alZ n ≤ 15 := by unfold alZ; omega
theorem align_mod (l : List UInt8) : (alignL l).length % 16 = 0 := by rw [length_alignL]; unfold alZ; omega
theorem align_app (a b : List UInt8) (h : a.length % 16 = 0) : alignL (a ++ b) = a ++ alignL b := by
  have e : alZ (a ++ b).length = alZ b.length := by rw [List.length_append]; unfold alZ; omega
  rw [alignL, e, List.append_assoc]; rfl
/-- What the tag is of. -/
def tagL (wi text : List UInt8) : List UInt8 := alignL wi ++ alignL text ++ nbs 8 wi.length ++ nbs 8 text.length
def tagA (k n wi text : ByteArray) : ByteArray := tagB ((blkB (iw k n 0)).extract 0 32) (bs (tagL (ls wi) (ls text)))
theorem size_tagA (k n wi text : ByteArray) : (tagA k n wi text).size = 16 := size_tagB _ _
/-- Turned by the stream from block 1 on. -/
def trnA (k n s : ByteArray) : ByteArray := bs (trn (ls s) (ks k n 1))
theorem size_trnA (k n s : ByteArray) : (trnA k n s).size = s.size := by rw [trnA, size_bs, length_trn, length_ls]
theorem trnA_back (k n s : ByteArray) : trnA k n (trnA k n s) = s := turn_back s _
def sealA (k n wi s : ByteArray) : ByteArray := trnA k n s ++ tagA k n wi (trnA k n s)
theorem size_sealA (k n wi s : ByteArray) : (sealA k n wi s).size = s.size + 16 := by
  rw [sealA, ByteArray.size_append, size_trnA, size_tagA]
def openA (k n wi box : ByteArray) : Option ByteArray :=
  if box.size < 16 then none else if tagA k n wi (box.extract 0 (box.size - 16)) = box.extract (box.size - 16) box.size then some (trnA k n (box.extract 0 (box.size - 16))) else none
theorem ext_app_left (a b : ByteArray) (n : Nat) (h : n = a.size) : (a ++ b).extract 0 n = a := by
  apply ls_inj
  rw [ls_extract, ls_append, List.drop_zero, Nat.sub_zero, List.take_left' (by rw [length_ls, h])]
theorem ext_app_right (a b : ByteArray) (n m : Nat) (h : n = a.size) (hm : m = a.size + b.size) : (a ++ b).extract n m = b := by
  apply ls_inj
  rw [ls_extract, ls_append, List.drop_left' (by rw [length_ls, h]), List.take_of_length_le (by rw [length_ls]; omega)]
theorem ext_split (s : ByteArray) (n : Nat) : s.extract 0 n ++ s.extract n s.size = s := by
  apply ls_inj
  have hl := length_ls s
  rw [ls_append, ls_extract, ls_extract, List.drop_zero, Nat.sub_zero, List.take_of_length_le (l := (ls s).drop n) (by simp [hl]), List.take_append_drop]
/-- What is sealed is opened to what it was. -/
theorem open_seal (k n wi s : ByteArray) : openA k n wi (sealA k n wi s) = some s := by
  have hs := size_sealA k n wi s
  have h1 : (sealA k n wi s).extract 0 ((sealA k n wi s).size - 16) = trnA k n s := ext_app_left _ _ _ (by rw [hs, size_trnA]; omega)
  have h2 : (sealA k n wi s).extract ((sealA k n wi s).size - 16) (sealA k n wi s).size = tagA k n wi (trnA k n s) := ext_app_right _ _ _ _ (by rw [hs, size_trnA]; omega) (by rw [hs, size_trnA, size_tagA])
  rw [openA, if_neg (by omega), h1, h2, if_pos rfl, trnA_back]
/-- What is opened, and sealed, is the same box. -/
theorem seal_open (k n wi box s : ByteArray) (h : openA k n wi box = some s) : sealA k n wi s = box := by
  unfold openA at h
  split at h
  · cases h
  · split at h
    · rename_i h1 h2
      cases h
      rw [sealA, trnA_back, h2, ext_split _ _]
    · cases h
/-- With another tag alone it is not opened. -/
theorem open_other (k n wi s x : ByteArray) (hx : x.size = s.size + 16) (h1 : x.extract 0 s.size = (sealA k n wi s).extract 0 s.size) (h2 : x ≠ sealA k n wi s) : openA k n wi x = none := by
  rw [openA, if_neg (by omega), show x.size - 16 = s.size by omega, h1]
  rw [if_neg]
  intro e
  apply h2
  have e1 := ext_split x s.size
  rw [hx] at e1 e
  rw [← e1, h1, ← e]
  have h3 : (sealA k n wi s).extract 0 s.size = trnA k n s := ext_app_left _ _ _ (by rw [size_trnA])
  rw [h3]; rfl
theorem size_openA {k n wi box s : ByteArray} (h : openA k n wi box = some s) : box.size = s.size + 16 := by rw [← seal_open k n wi box s h, size_sealA]
end Go.Proofs.Ytkfacnegfkgcgaa

/-
  Lemmas for walks of whatever seat: rows of words, bytes, appends, regions with a tail.
-/
namespace Go.Proofs.Ytkfacnegfkgcgaa
open Go.RowKit MS

def rowW (s : Array W32) : Array Value := s.map (fun x => .int .u32 (wv x))
theorem size_rowW (s : Array W32) : (rowW s).size = s.size := by simp [rowW]
theorem rowW_set (s : Array W32) (i : Nat) (x : W32) : (rowW s).setIfInBounds i (.int .u32 (wv x)) = rowW (s.setIfInBounds i x) := by
  simp [rowW, Array.map_setIfInBounds]
theorem one_rowW (s : Array W32) : (rowW s).all (·.oneCell') = true := by simp [rowW, Value.oneCell']
theorem rowW_get (s : Array W32) (i : Nat) (h : i < s.size) : (rowW s)[i]? = some (.int .u32 (wv (s.getD i 0))) := by simp [rowW, h]
theorem wpAny_take_at {P : Program} {ops : Array Oper} {md : Region.Mode} {Q : Exit → Act → World → Prop} {i d : Nat} {oi : Oper} {v : Value} {fuel : Nat} {listed : Array Bool} {a : Act} {w : World} (hi : ops[i]? = some oi)
    (hs : Region.noSelect ops = true) (hf : Region.free md ops listed i = true) (hr : (Region.ready md ops listed).contains i = true)
    (hQ : ∀ c a w, Q (.panic c) (a.put (some d) v) w → Q (.panic c) a w) (hd : oi.dst = some d) (hy : Yields P ops oi v a)
    (h : wpAny P md ops Q fuel (listed.setIfInBounds i true) (a.put (some d) v) w) : wpAny P md ops Q (fuel + 1) listed a w :=
  wpAny_take hi hs hf hr (by rw [hd]; exact hQ) hy (by rw [hd]; exact h)
theorem wpAny_tail {P : Program} {md : Region.Mode} {Q : Exit → Act → World → Prop} {l : List Oper} {listed : Array Bool} {a : Act} {w : World} (n g : Nat) (hB : Region.seqB md l.toArray g n listed = true) (hg : (l.drop n).length = g)
    (h : wpList P l.toArray Q (l.drop n) a w) : wpAny P md l.toArray Q g listed a w := by
  subst hg
  exact wpAny_of_seq (l.drop n) n listed a w (fun j => by simp [List.getElem?_drop]) hB h
theorem grown_set {w0 w : World} {b : Nat} (h : w0.grownBy w (some b)) (k i : Nat) (v : Value) : w0.grownBy ((w.drewN k).setCell ⟨b, i, none⟩ v) (some b) := by
  refine ⟨h.os, h.tape, h.output, by simpa [World.setCell] using h.size, fun j hj hne => ?_⟩
  rw [heap_setCell_other _ _ _ _ (fun e => hne (by rw [e]))]
  exact h.block j hj hne
theorem row_set {w : World} {b T : Nat} {cs : Array Value} (h : w.heap[b]? = some (.cells cs T (0, 0))) (k i : Nat) (v : Value) : ((w.drewN k).setCell ⟨b, i, none⟩ v).heap[b]? = some (.cells (cs.setIfInBounds i v) T (0, 0)) :=
  heap_setCell_same (w.drewN k) b i cs T v h
theorem below_setRow {B g : Nat} {w0 w : World} (h : Below B w0 w) (hg : B ≤ g) (cs : Array Value) : Below B w0 (w.setRow g cs) :=
  ⟨h.os, h.tape, h.output, by simpa using h.size, fun k hk => by rw [setRow_other _ _ _ _ (by omega)]; exact h.block k hk⟩
theorem below_drewN {B : Nat} {w0 w : World} (h : Below B w0 w) (k : Nat) : Below B w0 (w.drewN k) := ⟨h.os, h.tape, h.output, h.size, h.block⟩

def valB (b : UInt8) : Value := .int .u8 (b.toNat : Int)
def vls (l : List UInt8) : List Value := l.map valB
theorem vls_app (l : List UInt8) (b : UInt8) : vls (l ++ [b]) = vls l ++ [valB b] := by simp [vls]
def wvs (l : List W32) : List Value := l.map (fun x => .int .u32 (wv x))
theorem one_cell (w : World) (x : Value) (T : Nat) : ∀ j u, [x][j]? = some u → (w.alloc (.cells #[x] T (0, 0))).cell? ((⟨w.heap.size, 0, none⟩ : Addr).add j) = some u := by
  intro j u hu
  obtain ⟨rfl, rfl⟩ : j = 0 ∧ u = x := by
    cases j with
    | zero => exact ⟨rfl, by simpa using hu.symm⟩
    | succ m => simp at hu
  exact cell_of_row _ _ _ _ _ _ (MapKept.heap_alloc w _).1
theorem one_one (x : Value) (h : x.oneCell' = true) : ∀ u ∈ [x], u.oneCell' = true := by
  intro u hu
  rw [List.mem_singleton.1 hu]
  exact h
theorem le_alloc {B : Nat} {w : World} (h : B ≤ w.heap.size) (o : Obj) : B ≤ (w.alloc o).heap.size := by
  rw [World.size_alloc]
  exact Nat.le_succ_of_le h
theorem below_app {w0 wr w' : World} (hb : Below w0.heap.size w0 wr) (o : Obj) (v : Value) (n : Nat) (e : TypeId) (xs : List Value) (ho : wr.ownsRow w0.heap.size e 1 v n xs) (hg : (wr.alloc o).grownBy w' v.ownBlock) : Below w0.heap.size w0 w' :=
  (below_alloc hb o).grown hg (by rw [World.size_alloc]; exact Nat.le_succ_of_le hb.size) (fun m hm => (ho.lt m hm).1)
theorem conv_out {B2 cap g : Nat} {w : World} (l : List UInt8) (n : Nat) (hl : l.length = n) (hown : w.ownsRow B2 5 1 (.slice (some ⟨g, 0, none⟩) n cap) n (vls l)) :
    (convert 37 9 (.slice (some ⟨g, 0, none⟩) n cap)).run Try.prog w = .ok (.string (bs l)) w := by
  refine run_bytes_to_string w 37 9 5 Try.underlying37 Try.underlying5 Try.underlying9 g 0 n cap l hl (fun j h => ?_)
  have := hown.cellAt j (by omega)
  rw [Nat.zero_add, this]
  simp [vls, valB, h]
theorem conv_nil (w : World) : (convert 37 9 (.slice none 0 0)).run Try.prog w = .ok (.string ⟨#[]⟩) w := by
  rw [run_convert_bytes_string w 37 9 5 _ _ _ Try.underlying37 Try.underlying5 Try.underlying9]
  simp [Conv.bytesToString, Sem.run_pure]
  rfl
theorem ls_get (s : ByteArray) (j : Nat) (h : j < s.size) : s[j]'h = (ls s).getD j 0 := by
  have hl : j < s.data.toList.length := by simpa using h
  unfold ls
  rw [List.getD_eq_getElem?_getD, List.getElem?_eq_getElem hl]
  rfl
theorem ext4 (s : ByteArray) (j : Nat) (h : 4 * j + 4 ≤ s.size) : s.extract (4 * j) (4 * j + 4) = ByteArray.mk #[(ls s).getD (4 * j) 0, (ls s).getD (4 * j + 1) 0, (ls s).getD (4 * j + 2) 0, (ls s).getD (4 * j + 3) 0] := by
  apply ls_inj
  rw [ls_extract]
  have hl : (ls s).length = s.size := length_ls s
  generalize ls s = l at hl
  show (l.drop (4 * j)).take (4 * j + 4 - 4 * j) = [_, _, _, _]
  rw [show 4 * j + 4 - 4 * j = 4 by omega]
  apply List.ext_getElem
  · simp; omega
  · intro i h1 h2
    simp at h1
    have h4 : i < 4 := by omega
    have hi : 4 * j + i < l.length := by omega
    match i, h4 with
    | 0, _ => simp [show 4 * j < l.length by omega]
    | 1, _ => simp [show 4 * j + 1 < l.length by omega]
    | 2, _ => simp [show 4 * j + 2 < l.length by omega]
    | 3, _ => simp [show 4 * j + 3 < l.length by omega]
theorem or_mul (a b k : Nat) (h : a < 2 ^ k) : a ||| b * 2 ^ k = b * 2 ^ k + a := by
  rw [Nat.or_comm, ← Nat.shiftLeft_eq, Nat.shiftLeft_add_eq_or_of_lt h]
theorem run_index_row (T n : Nat) (hu : Try.prog.underlying T = some (.array n 22)) (t : Array W32) (hz : t.size = n) (j : Nat) (hj : j < n) (w : World) : (Instr.index T (.agg (rowW t)) (.int .i64 j)).run Try.prog w = .ok (.int .u32 (wv (t.getD j 0))) w := by
  have hn : (0 : Int) ≤ j ∧ (j : Int) < n := by omega
  have hi : (Try.prog.info? 22).map (·.size) = some 1 := by kernel_rfl
  have hjt : j < t.size := by omega
  cases hq : Try.prog.info? 22 with
  | none => simp [hq] at hi
  | some i =>
    have hs : i.size = 1 := by simpa [hq] using hi
    simp [Instr.index, run_underlying hu, asIntOf, go_sem, sizeOf, typeInfo, hq, hs, hn]
    have hx : (rowW t)[j]? = some (.int .u32 (wv (t.getD j 0))) := by simp [rowW, hjt]
    rw [if_pos hj, hx]
    simp [hjt]

theorem be_ar1 (a b : Nat) : a * 16777216 + b * 65536 = (a * 256 + b) * 65536 := by omega
theorem be_ar2 (a b c : Nat) : a * 16777216 + b * 65536 + c * 256 = (a * 65536 + b * 256 + c) * 256 := by omega
theorem be_ar3 (a b c d : Nat) : 16777216 * a + 65536 * b + 256 * c + d = a * 16777216 + (b * 65536 + (c * 256 + d)) := by omega
theorem be_ar4 (a b c d : Nat) : 16777216 * a + 65536 * b + 256 * c + d = a * 16777216 + b * 65536 + c * 256 + d := by omega
/-- A word, the highest byte first. -/
def beN (a b c d : Nat) : W32 := BitVec.ofNat 32 (16777216 * a + 65536 * b + 256 * c + d)
theorem be_or4 (a b c d : Nat) (ha : a < 256) (hb : b < 256) (hc : c < 256) (hd : d < 256) :
    bits .or .u32 (bits .or .u32 (bits .or .u32 ((a : Int) % 4294967296 * 16777216 % 4294967296) ((b : Int) % 4294967296 * 65536 % 4294967296)) ((c : Int) % 4294967296 * 256 % 4294967296)) ((d : Int) % 4294967296)
      = wv (beN a b c d) := by
  have e0 : (a : Int) % 4294967296 * 16777216 % 4294967296 = ((a * 16777216 : Nat) : Int) := by omega
  have e1 : (b : Int) % 4294967296 * 65536 % 4294967296 = ((b * 65536 : Nat) : Int) := by omega
  have e2 : (c : Int) % 4294967296 * 256 % 4294967296 = ((c * 256 : Nat) : Int) := by omega
  have e3 : (d : Int) % 4294967296 = ((d : Nat) : Int) := by omega
  have bound : ∀ x y m : Nat, x < 256 → y < m → x * m + y < 256 * m := fun x y m hx hy =>
    Nat.lt_of_lt_of_le (show x * m + y < (x + 1) * m by rw [Nat.succ_mul]; exact Nat.add_lt_add_left hy _) (Nat.mul_le_mul_right _ hx)
  have l1 : c * 256 + d < 65536 := bound c d 256 hc hd
  have l2 : b * 65536 + (c * 256 + d) < 16777216 := bound b _ 65536 hb l1
  have l3 : a * 16777216 + (b * 65536 + (c * 256 + d)) < 4294967296 := bound a _ 16777216 ha l2
  have m1 : b * 65536 < 16777216 := Nat.lt_of_le_of_lt (Nat.le_add_right _ _) l2
  have m2 : c * 256 < 65536 := Nat.lt_of_le_of_lt (Nat.le_add_right _ _) l1
  have k0 : a * 16777216 < 4294967296 := Nat.lt_of_le_of_lt (Nat.le_add_right _ _) l3
  have k1 : b * 65536 < 4294967296 := Nat.lt_trans m1 (by decide)
  have k2 : c * 256 < 4294967296 := Nat.lt_trans m2 (by decide)
  have k3 : d < 4294967296 := Nat.lt_trans hd (by decide)
  have q1 : a * 16777216 ||| b * 65536 = a * 16777216 + b * 65536 := by rw [Nat.or_comm]; exact or_mul (b * 65536) a 24 m1
  have q2 : (a * 16777216 + b * 65536) ||| c * 256 = a * 16777216 + b * 65536 + c * 256 := by
    have := or_mul (c * 256) (a * 256 + b) 16 m2
    rw [Nat.or_comm, be_ar1]
    exact this
  have q3 : (a * 16777216 + b * 65536 + c * 256) ||| d = a * 16777216 + b * 65536 + c * 256 + d := by
    have := or_mul d (a * 65536 + b * 256 + c) 8 hd
    rw [Nat.or_comm, be_ar2]
    exact this
  have z1 : a * 16777216 + b * 65536 < 4294967296 := Nat.lt_of_le_of_lt (Nat.add_le_add_left (Nat.le_add_right _ _) _) l3
  have z2 : a * 16777216 + b * 65536 + c * 256 < 4294967296 := by
    rw [Nat.add_assoc]
    exact Nat.lt_of_le_of_lt (Nat.add_le_add_left (Nat.add_le_add_left (Nat.le_add_right _ _) _) _) l3
  rw [e0, e1, e2, e3, u32_or_nat _ _ k0 k1, q1, u32_or_nat _ _ z1 k2, q2, u32_or_nat _ _ z2 k3, q3]
  unfold wv beN
  rw [BitVec.toNat_ofNat, Nat.mod_eq_of_lt (by rw [be_ar3]; exact l3)]
  rw [be_ar4]
end Go.Proofs.Ytkfacnegfkgcgaa

/-
  Rows of the call's own in later worlds.
-/
namespace MS
open Go Go.RowKit
theorem grown_of_below {w w' : World} (h : Below w.heap.size w w') : w.grownBy w' none := ⟨h.os, h.tape, h.output, h.size, fun k hk _ => h.block k hk⟩
theorem ownsRow_on {w w' : World} {base : Nat} {e : TypeId} {size : Nat} {v : Value} {n : Nat} {xs : List Value} (h : w.ownsRow base e size v n xs) (hb : Below w.heap.size w w') : w'.ownsRow base e size v n xs :=
  h.kept (grown_of_below hb) (by cases hv : v.ownBlock with | none => exact .inl rfl | some k => right; intro h; cases h)
def sliceLen : Value → Nat
  | .slice _ n _ => n
  | _ => 0
theorem own_cap {w : World} {base : Nat} {e : TypeId} {size : Nat} {g n cap : Nat} {xs : List Value} (h : w.ownsRow base e size (.slice (some ⟨g, 0, none⟩) n cap) n xs) : n ≤ cap ∧ cap ≤ maxLen ∧ base ≤ g ∧ g < w.heap.size := by
  obtain ⟨_, h | ⟨g', cap', cur, e1, hb, hg, hn, hm, _⟩⟩ := h
  · cases h.1
  · simp only [Value.slice.injEq, Option.some.injEq, Addr.mk.injEq] at e1
    obtain ⟨⟨rfl, _, _⟩, _, rfl⟩ := e1
    exact ⟨hn, hm, hb, (Array.getElem?_eq_some_iff.1 hg).1⟩
end MS
namespace Go.Proofs.Ytkfacnegfkgcgaa
open Go.RowKit MS
theorem conv_pre {B2 cap g N : Nat} {w : World} (l : List UInt8) (n : Nat) (hl : l.length = N) (hn : n ≤ N) (hown : w.ownsRow B2 5 1 (.slice (some ⟨g, 0, none⟩) N cap) N (vls l)) :
    (convert 37 9 (.slice (some ⟨g, 0, none⟩) n cap)).run Try.prog w = .ok (.string (bs (l.take n))) w := by
  refine run_bytes_to_string w 37 9 5 Try.underlying37 Try.underlying5 Try.underlying9 g 0 n cap (l.take n) (by simp; omega) (fun j h => ?_)
  have h' : j < n := by simp at h; omega
  have := hown.cellAt j (by omega)
  rw [Nat.zero_add, this]
  simp [vls, valB, show j < l.length by omega, List.getElem_take]
end Go.Proofs.Ytkfacnegfkgcgaa

/-
  Blocks of bytes of the call's own, known whole, of whatever type; bytes appended.
-/
namespace Go.Proofs.Ytkfacnegfkgcgaa
open Go.RowKit MS

structure Bt (T : TypeId) (g : Nat) (w0 : World) (L : List UInt8) (w : World) : Prop where
  ge : w0.heap.size ≤ g
  ro : w.heap[g]? = some (.cells (vls L).toArray T (0, 0))
  bel : Below w0.heap.size w0 w
theorem Bt.put {T : TypeId} {g : Nat} {w0 w : World} {L : List UInt8} (h : Bt T g w0 L w) (i : Nat) (x : UInt8) : Bt T g w0 (L.set i x) (w.setCell ⟨g, i, none⟩ (valB x)) := by
  refine ⟨h.ge, ?_, h.bel.setCell h.ge _⟩
  rw [heap_setCell_same w g i _ _ _ h.ro]
  congr 2
  apply Array.toList_inj.1
  simp [vls, List.map_set]
theorem Bt.cell {T : TypeId} {g : Nat} {w0 w : World} {L : List UInt8} (h : Bt T g w0 L w) (i : Nat) (hi : i < L.length) : w.cell? ⟨g, i, none⟩ = some (.int .u8 ((L.getD i 0).toNat : Int)) := by
  rw [cell_of_row w g i _ _ _ h.ro]
  simp [vls, hi, valB]
theorem Bt.free {T : TypeId} {g : Nat} {w0 w : World} {L : List UInt8} (h : Bt T g w0 L w) (i : Nat) : w.frozen? ⟨g, i, none⟩ = false := frozen_of_row w g i _ _ h.ro
theorem Bt.lt {T : TypeId} {g : Nat} {w0 w : World} {L : List UInt8} (h : Bt T g w0 L w) : g < w.heap.size := (Array.getElem?_eq_some_iff.1 h.ro).1
theorem Bt.on {T : TypeId} {g : Nat} {w0 w w' : World} {L : List UInt8} (h : Bt T g w0 L w) (hb : Below w.heap.size w w') : Bt T g w0 L w' := ⟨h.ge, (hb.block _ h.lt).trans h.ro, h.bel.trans (hb.mono h.bel.size)⟩
theorem Bt.drewN {T : TypeId} {g : Nat} {w0 w : World} {L : List UInt8} (h : Bt T g w0 L w) (k : Nat) : Bt T g w0 L (w.drewN k) := ⟨h.ge, h.ro, below_drewN h.bel k⟩
theorem Bt.made {T : TypeId} {w0 w : World} (hb : Below w0.heap.size w0 w) (L : List UInt8) : Bt T w.heap.size w0 L (w.alloc (.cells (vls L).toArray T (0, 0))) :=
  ⟨hb.size, (MapKept.heap_alloc w _).1, below_alloc hb _⟩
theorem Bt.conv {T : TypeId} {g : Nat} {w0 w : World} {L : List UInt8} (h : Bt T g w0 L w) (n c : Nat) (hn : L.length = n) :
    (convert 37 9 (.slice (some ⟨g, 0, none⟩) n c)).run Try.prog w = .ok (.string (bs L)) w := by
  refine run_bytes_to_string w 37 9 5 Try.underlying37 Try.underlying5 Try.underlying9 g 0 n c L hn (fun j hj => ?_)
  rw [Nat.zero_add, cell_of_row w g j _ _ _ h.ro]
  simp [vls, valB, hj]
theorem bt_copied {T : TypeId} {g : Nat} {w0 w : World} {n : Nat} (h : Bt T g w0 (List.replicate n 0) w) (r : ByteArray) :
    Bt T g w0 (ls r ++ List.replicate (n - (ls r).length) 0) (w.setRow g ((vls (List.replicate n 0)).toArray.toList.take 0 ++ Lib.byteCells r.data.toList ++ (vls (List.replicate n 0)).toArray.toList.drop (0 + r.size)).toArray) := by
  refine ⟨h.ge, ?_, below_setRow h.bel h.ge _⟩
  rw [setRow_heap w g _ _ _ _ h.ro]
  congr 2
  apply Array.toList_inj.1
  simp [vls, Lib.byteCells, ls, valB]
theorem wpList_copy_bt {w : World} {ops : Array Oper} {rest : List Oper} {o : Oper} {a : Act} {Q : Exit → Act → World → Prop} (hgd : o.guard = none) (d s : Operand)
    (ho : o.op = .call { callee := .builtin .copy, args := #[d, s], argTypes := #[37, 9] })
    (T : TypeId) (g n dCap : Nat) (str : ByteArray) (hd : a.eval d = .slice (some ⟨g, 0, none⟩) n dCap) (hs : a.eval s = .string str)
    (w0 : World) (hg : Bt T g w0 (List.replicate n 0) w) (hle : str.size ≤ n)
    (h : ∀ w', Bt T g w0 (ls str ++ List.replicate (n - (ls str).length) 0) w' → wpList Try.prog ops Q rest (a.put o.dst (goInt str.size)) w') : wpList Try.prog ops Q (o :: rest) a w := by
  refine wpList_plain hgd fun K hK => ?_
  have hrun := Lib.run_copy_row_string (P := Try.prog) w 37 9 o.type 5 g 0 n dCap str (vls (List.replicate n 0)).toArray T Try.underlying37 (by kernel_rfl) hg.ro hle (by simpa [vls] using hle)
  have h' := h _ (bt_copied hg str)
  generalize (w.setRow g _) = w' at hrun h'
  unfold Oper.wp
  simp [execOp, ho, resolve, invoke, builtin, hd, hs, hrun, Result.andThen]
  exact hK _ _ h'
theorem made_u8 (m : Nat) : (madeCells #[Value.int .u8 0] m).toList = vls (List.replicate m 0) := by
  rw [toList_madeCells_one, vls, List.map_replicate]
  rfl
theorem zeros16 : (#[.int .u8 0, .int .u8 0, .int .u8 0, .int .u8 0, .int .u8 0, .int .u8 0, .int .u8 0, .int .u8 0, .int .u8 0, .int .u8 0, .int .u8 0, .int .u8 0, .int .u8 0, .int .u8 0, .int .u8 0, .int .u8 0] : Array Value) = (vls (List.replicate 16 0)).toArray := rfl
theorem wpList_append_strP {w : World} {ops : Array Oper} {rest : List Oper} {o : Oper} {a : Act} {Q : Exit → Act → World → Prop} (hgd : o.guard = none) (sl x : Operand)
    (ho : o.op = .call { callee := .builtin .append, args := #[sl, x], argTypes := #[37, 9] })
    (base : Nat) (v : Value) (n : Nat) (l : List UInt8) (hs : a.eval sl = v) (hown : w.ownsRow base 5 1 v n (vls l)) (s : ByteArray) (hx : a.eval x = .string s) (hb : n + s.size ≤ 1000000) (hbase : base ≤ w.heap.size)
    (h : ∀ v' w', w'.ownsRow base 5 1 v' (n + s.size) (vls (l ++ ls s)) → w.grownBy w' v.ownBlock → wpList Try.prog ops Q rest (a.put o.dst v') w') : wpList Try.prog ops Q (o :: rest) a w := by
  refine wpList_plain hgd fun K hK => ?_
  obtain ⟨i8, hj0, hy0, hy1, hy2⟩ : ∃ i, Try.prog.info? 5 = some i ∧ i.zero = some (.int .u8 0) ∧ i.size = 1 ∧ i.bytes = 1 := ⟨_, rfl, rfl, rfl, rfl⟩
  obtain ⟨v', w', hr, h2, h3, _⟩ := Lib.run_append_own_string (P := Try.prog) w base 37 9 o.type 5 i8 Try.underlying37 Try.underlying9 hj0 hy0 hy1 hy2 v n (vls l) hown s (by unfold maxLen; omega) (by omega) hbase
  have e : vls l ++ Lib.strCells s = vls (l ++ ls s) := by
    simp [vls, Lib.strCells, ls, valB]
  rw [e] at h2
  unfold Oper.wp execOp
  simp only [ho, resolve, invoke, builtin, Sem.run_bind, Sem.run_pure, Result.andThen_ok, List.map_toArray, List.map_cons, List.map_nil, hs, hx, hr]
  exact hK _ _ (h v' w' h2 h3)
end Go.Proofs.Ytkfacnegfkgcgaa

/-
  Regions that draw their order and hold calls which make memory: quiet in the class of the worlds that have grown from the region's own.
-/
namespace MS
open Go Go.RowKit
/-- A world grown from w: what was there is as it was. -/
def BW (w : World) := {x : World // Below w.heap.size w x}
instance (w : World) : Nonempty (BW w) := ⟨⟨w, Below.refl _ _⟩⟩
section
variable {P : Program}
theorem wp_region_below {id : Nat} {Q : Exit → Act → World → Prop} {a : Act} {w : World} {l : List Oper} (hm : P.follows .mixedOrders = true) (hB : Region.lexB .any l.toArray = true)
    (h : wpQuiet P l.toArray (fun w' => ∃ p : BW w, w' = p.1) (fun a' => ∀ w', (∃ p : BW w, w' = p.1) → Q .normal a' w') l a) : (Code.region id l.toArray true).wp P Q a w :=
  wp_region_quiet (C := fun w' => ∃ p : BW w, w' = p.1) hm hB ⟨⟨w.drew, (Below.refl _ _).drew⟩, rfl⟩ (by simpa using h)
theorem wp_region_below_tail {id : Nat} {Q : Exit → Act → World → Prop} {a : Act} {w : World} {l : List Oper} (n : Nat) (hm : P.follows .mixedOrders = true) (hB : Region.lexTailB .any l.toArray n = true)
    (h : wpQuiet P l.toArray (fun w' => ∃ p : BW w, w' = p.1) (fun a' => ∀ w', (∃ p : BW w, w' = p.1) → wpList P l.toArray Q (l.drop n) a' w') (l.take n) a) : (Code.region id l.toArray true).wp P Q a w :=
  wp_region_quiet_tail n _ hm hB ⟨⟨w.drew, (Below.refl _ _).drew⟩, rfl⟩ h
theorem calls_below {f : FuncId} {args : Array Value} {w : World} {p : BW w} {v : Value} (h : Calls P f args p.1 fun e w' => e = .returned v ∧ Below p.1.heap.size p.1 w') :
    Calls P f args p.1 fun e w'' => e = .returned v ∧ ∃ q : BW w, w'' = q.1 :=
  h.mono fun _ w'' ⟨he, hb⟩ => ⟨he, ⟨w'', p.2.trans (hb.mono p.2.size)⟩, rfl⟩
end
end MS
