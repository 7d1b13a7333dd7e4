/-
  mailsackref05.Block: the walk.
-/
import Derived.Test.YtkfacnegfkgcgaaRBlkA
import Derived.Deep.Light
namespace Go.Proofs.Ytkfacnegfkgcgaa
open Go.RowKit MS

attribute [local go_sem] w_add
set_option maxRecDepth 100000 in
set_option maxHeartbeats 600000 in
theorem rblock (k n : ByteArray) (c : W32) (w : World) (hk : k.size = 32) (hn : n.size = 12) :
    Calls Try.prog 22 #[.string k, .string n, .int .u32 (wv c)] w fun e w' => e = .returned (.string (blkB (iw k n c))) ∧ Below w.heap.size w w' := by
  obtain ⟨i0, hi, hz0, hz1, hz2⟩ : ∃ i, Try.prog.info? 22 = some i ∧ i.zero = some (.int .u32 0) ∧ i.size = 1 ∧ i.bytes = 4 := ⟨_, rfl, rfl, rfl, rfl⟩
  obtain ⟨i8, hj0, hy0, hy1, hy2⟩ : ∃ i, Try.prog.info? 5 = some i ∧ i.zero = some (.int .u8 0) ∧ i.size = 1 ∧ i.bytes = 1 := ⟨_, rfl, rfl, rfl, rfl⟩
  have HK := Lib.hid hk
  have HN := Lib.hid hn
  clear hk hn
  have hown0 : w.ownsRow w.heap.size 22 1 (.slice none 0 0) 0 (wvs []) := ⟨rfl, .inl ⟨rfl, rfl⟩⟩
  go_enter Try.func22, Try.ntmps22
  go_wp2_with fail
  go_loopw [7, 8] (fun v i wr => ∃ j : Nat, j ≤ 4 ∧ i = .int .i64 (4 * (j : Int)) ∧ wr.ownsRow w.heap.size 22 1 v (j) (wvs ((List.range j).map (leW cst))) ∧ Below w.heap.size w wr) (fun _ i _ => 16 - (intOf i).toNat)
  case atStart => exact ⟨0, by omega, rfl, hown0, Below.refl _ _⟩
  case round =>
    obtain ⟨j, hj, rfl, hown, hnx⟩ := hrel
    have HOWN := Lib.hid hown
    have HNX := Lib.hid hnx
    clear hown hnx hown0
    by_cases hjN : j < 4
    · go_wp2_with fail
      change Calls _ _ #[.string cst, _] _ _
      refine (word_any cst j (by show 4 * j + 4 ≤ 16; omega) (by omega) wr).mono ?_
      rintro e w2 ⟨rfl, kk, rfl⟩
      have hown2 : ((wr.drewN kk).alloc (.cells #[.int .u32 (wv (leW cst j))] 22 (0, 0))).ownsRow w.heap.size 22 1 u7 (j) (wvs ((List.range j).map (leW cst))) := HOWN.out.alloc _
      have HOWN2 := Lib.hid hown2
      have hsz := HNX.out.size
      clear hown2
      go_wp2_with (at_builtin; refine wpList_append_own _ rfl (.tmp 21) (.tmp 24) 25 rfl w.heap.size 22 i0 (.int .u32 0) 1 4 Try.underlying25 hi hz0 hz1 hz2 rfl (by decide) _ _ _ rfl HOWN2.out ⟨wr.heap.size, 0, none⟩ 1 1 [.int .u32 (wv (leW cst j))] rfl rfl ?c1 ?c2 ?c3 ?c4 ?c5 ?_)
      try case c1 => exact one_cell (wr.drewN kk) _ _
      try case c2 => first | rfl | (intro u hu; rw [List.mem_singleton.1 hu]; rfl)
      try case c3 => unfold maxLen; omega
      try case c4 => omega
      try case c5 => rw [World.size_alloc]; exact Nat.le_succ_of_le hsz
      intro v' w' h1 h2 h3
      go_wp2_with fail
      go_roundw
      case rel =>
        refine ⟨j + 1, by omega, by simp; omega, ?_, ?_⟩
        · rw [List.range_succ, List.map_append]
          unfold wvs
          rw [List.map_append]
          exact h1
        · exact below_app (wr := wr.drewN kk) ⟨HNX.out.os, HNX.out.tape, HNX.out.output, HNX.out.size, HNX.out.block⟩ _ _ _ _ _ HOWN.out h2
      case measure => simp [intOf]; omega
    · have hj4 : j = 4 := by omega
      have HO1 := HOWN.out
      have HB1 := HNX.out
      rw [hj4] at HO1
      have hge : ¬ (4 * (j : Int) < 16) := by omega
      generalize 4 * (j : Int) = J4 at *
      clear hj4 hjN
      generalize hL1 : (List.range 4).map (leW cst) = L1 at HO1
      have HL1 := Lib.hid hL1
      clear HOWN HNX hL1
      go_wp2_with fail
      go_loopw [7, 9] (fun v i wr => ∃ j : Nat, j ≤ 8 ∧ i = .int .i64 (4 * (j : Int)) ∧ wr.ownsRow w.heap.size 22 1 v (4 + j) (wvs (L1 ++ (List.range j).map (leW k))) ∧ Below w.heap.size w wr) (fun _ i _ => 32 - (intOf i).toNat)
      case atStart => exact ⟨0, by omega, rfl, by simpa using HO1, HB1⟩
      case round =>
        obtain ⟨j, hj, rfl, hown, hnx⟩ := hrel
        have HOWN := Lib.hid hown
        have HNX := Lib.hid hnx
        clear hown hnx HO1 HB1
        by_cases hjN : j < 8
        · go_wp2_with fail
          skip
          refine (word_any k j (by rw [HK.out]; omega) (by omega) wr).mono ?_
          rintro e w2 ⟨rfl, kk, rfl⟩
          have hown2 : ((wr.drewN kk).alloc (.cells #[.int .u32 (wv (leW k j))] 22 (0, 0))).ownsRow w.heap.size 22 1 u7 (4 + j) (wvs (L1 ++ (List.range j).map (leW k))) := HOWN.out.alloc _
          have HOWN2 := Lib.hid hown2
          have hsz := HNX.out.size
          clear hown2
          go_wp2_with (at_builtin; refine wpList_append_own _ rfl (.tmp 30) (.tmp 34) 25 rfl w.heap.size 22 i0 (.int .u32 0) 1 4 Try.underlying25 hi hz0 hz1 hz2 rfl (by decide) _ _ _ rfl HOWN2.out ⟨wr.heap.size, 0, none⟩ 1 1 [.int .u32 (wv (leW k j))] rfl rfl ?c1 ?c2 ?c3 ?c4 ?c5 ?_)
          try case c1 => exact one_cell (wr.drewN kk) _ _
          try case c2 => first | rfl | (intro u hu; rw [List.mem_singleton.1 hu]; rfl)
          try case c3 => unfold maxLen; omega
          try case c4 => omega
          try case c5 => rw [World.size_alloc]; exact Nat.le_succ_of_le hsz
          intro v' w' h1 h2 h3
          go_wp2_with fail
          go_roundw
          case rel =>
            refine ⟨j + 1, by omega, by simp; omega, ?_, ?_⟩
            · rw [List.range_succ, List.map_append, ← List.append_assoc]
              unfold wvs
              rw [List.map_append]
              exact h1
            · exact below_app (wr := wr.drewN kk) ⟨HNX.out.os, HNX.out.tape, HNX.out.output, HNX.out.size, HNX.out.block⟩ _ _ _ _ _ HOWN.out h2
          case measure => simp [intOf]; omega
        · have hj8' : j = 8 := by omega
          have HO2 := HOWN.out
          have HB2 := Lib.hid HNX.out
          have hsz := HNX.out.size
          rw [hj8'] at HO2
          generalize hL2 : L1 ++ (List.range 8).map (leW k) = L2 at HO2
          have HL2 := Lib.hid hL2
          clear hL2
          have HOA := Lib.hid (show (wr.alloc (.cells #[.int .u32 (wv c)] 22 (0, 0))).ownsRow w.heap.size 22 1 u7 12 (wvs L2) from HO2.alloc _)
          have HO2' := Lib.hid HO2
          have hge : ¬ (4 * (j : Int) < 32) := by omega
          generalize 4 * (j : Int) = J8 at *
          clear HO2 hj8' hjN HOWN HNX
          go_wp2_with (at_builtin; refine wpList_append_own _ rfl (.tmp 36) (.tmp 38) 25 rfl w.heap.size 22 i0 (.int .u32 0) 1 4 Try.underlying25 hi hz0 hz1 hz2 rfl (by decide) _ _ _ rfl HOA.out ⟨wr.heap.size, 0, none⟩ 1 1 [.int .u32 (wv c)] rfl rfl (one_cell wr _ _) (one_one _ rfl) (by decide) (by decide) (le_alloc hsz _) ?_)
          intro v3 w3 h1 h2 h3
          have HB3 := below_app HB2.out _ _ _ _ _ HO2'.out h2
          have HO3 : w3.ownsRow w.heap.size 22 1 v3 13 (wvs (L2 ++ [c])) := by
            unfold wvs
            rw [List.map_append]
            exact h1
          generalize hL3 : L2 ++ [c] = L3 at HO3
          have HL3 := Lib.hid hL3
          clear hL3 h1 h2 h3 HB2 HO2' HOA hsz
          go_wp2_with fail
          go_loopw [7, 10] (fun v i wr => ∃ j : Nat, j ≤ 3 ∧ i = .int .i64 (4 * (j : Int)) ∧ wr.ownsRow w.heap.size 22 1 v (13 + j) (wvs (L3 ++ (List.range j).map (leW n))) ∧ Below w.heap.size w wr) (fun _ i _ => 12 - (intOf i).toNat)
          case atStart => exact ⟨0, by omega, rfl, by simpa using HO3, HB3⟩
          case round =>
            obtain ⟨j, hj, rfl, hown, hnx⟩ := hrel
            have HOWN := Lib.hid hown
            have HNX := Lib.hid hnx
            clear hown hnx HO3 HB3
            by_cases hjN : j < 3
            · go_wp2_with fail
              skip
              refine (word_any n j (by rw [HN.out]; omega) (by omega) wr).mono ?_
              rintro e w2 ⟨rfl, kk, rfl⟩
              have hown2 : ((wr.drewN kk).alloc (.cells #[.int .u32 (wv (leW n j))] 22 (0, 0))).ownsRow w.heap.size 22 1 u7 (13 + j) (wvs (L3 ++ (List.range j).map (leW n))) := HOWN.out.alloc _
              have HOWN2 := Lib.hid hown2
              have hsz := HNX.out.size
              clear hown2
              go_wp2_with (at_builtin; refine wpList_append_own _ rfl (.tmp 44) (.tmp 48) 25 rfl w.heap.size 22 i0 (.int .u32 0) 1 4 Try.underlying25 hi hz0 hz1 hz2 rfl (by decide) _ _ _ rfl HOWN2.out ⟨wr.heap.size, 0, none⟩ 1 1 [.int .u32 (wv (leW n j))] rfl rfl ?c1 ?c2 ?c3 ?c4 ?c5 ?_)
              try case c1 => exact one_cell (wr.drewN kk) _ _
              try case c2 => first | rfl | (intro u hu; rw [List.mem_singleton.1 hu]; rfl)
              try case c3 => unfold maxLen; omega
              try case c4 => omega
              try case c5 => rw [World.size_alloc]; exact Nat.le_succ_of_le hsz
              intro v' w' h1 h2 h3
              go_wp2_with fail
              go_roundw
              case rel =>
                refine ⟨j + 1, by omega, by simp; omega, ?_, ?_⟩
                · rw [List.range_succ, List.map_append, ← List.append_assoc]
                  unfold wvs
                  rw [List.map_append]
                  exact h1
                · exact below_app (wr := wr.drewN kk) ⟨HNX.out.os, HNX.out.tape, HNX.out.output, HNX.out.size, HNX.out.block⟩ _ _ _ _ _ HOWN.out h2
              case measure => simp [intOf]; omega
            · have hj3 : j = 3 := by omega
              have HO4 := HOWN.out
              have HB4 := Lib.hid HNX.out
              have hsz := HNX.out.size
              rw [hj3] at HO4
              have HS4 : L3 ++ (List.range 3).map (leW n) = (iw k n c).toList := by
                rw [← HL3.out, ← HL2.out, ← HL1.out]
                exact iw_words k n c
              rw [HS4] at HO4
              have hge : ¬ (4 * (j : Int) < 12) := by omega
              generalize 4 * (j : Int) = J12 at *
              have hSz := size_iw k n c
              generalize hI : iw k n c = S at HO4 hSz
              have HIW := Lib.hid hI
              have HS := Lib.hid hSz
              obtain ⟨gv, cap, rfl, hgv1, hgv2⟩ := HO4.form (by decide)
              have HO5 := Lib.hid HO4
              clear HO4 hj3 hjN HOWN HNX hI hSz HS4 HL1 HL2 HL3
              have hmk := fun w' h1 h2 => rst_start (w' := w') HS.out HB4.out HO5.out h1 h2
              have HMK := Lib.hid hmk
              have HM1 := Lib.hid (show i0.bytes * 16 ≤ 281474976710656 by rw [hz2]; decide)
              clear hmk
              go_wp2_with (with_reducible refine wpList_make_full _ rfl (.const (.int .i64 16)) (.const (.int .i64 16)) 25 rfl w.heap.size 22 i0 (.int .u32 0) 1 Try.underlying25 hi hz0 hz1 .i64 .i64 16 16 16 rfl rfl rfl rfl HM1.out (by decide) hsz ?_)
              intro w5 h1 h2
              obtain ⟨cur, st⟩ := HMK.out w5 h2 h1
              clear HMK HO5 HB4 h1 h2 hsz
              generalize wr.heap.size = g at st ⊢
              go_wp2_with fail
              go_loopw [12] (fun i wr => ∃ j : Nat, j ≤ 16 ∧ i = .int .i64 j ∧ RSt w.heap.size gv g w S (cp S j) cur wr) (fun i _ => 16 - (intOf i).toNat)
              case atStart => exact ⟨0, by omega, rfl, st⟩
              case round =>
                obtain ⟨j, hj, rfl, st0⟩ := hrel
                clear st
                by_cases hjN : j < 16
                · have jn : (0 : Int) ≤ j := by omega
                  have ji : (j : Int) < 16 := by omega
                  have c1 := st0.word j hjN
                  have c2 := st0.turned (size_cp S j) j hjN
                  have f2 := frozen_of_row _ g j _ _ st0.rg
                  generalize hsj : S.getD j 0 = sj at c1
                  have HSJ := Lib.hid hsj
                  clear hsj
                  go_wp2_with fail
                  have st1 := st0.set j sj
                  generalize World.setCell _ _ _ = wn at st1 ⊢
                  clear c1 c2 f2 st0
                  go_wp2_with fail
                  go_roundw
                  case rel => exact ⟨j + 1, by omega, by go_num, by rw [cp, HSJ.out]; exact st1⟩
                  case measure => simp [intOf]; omega
                · have st5 : RSt w.heap.size gv g w S (drs 0 S) cur wr := by
                    have hj16 : j = 16 := by omega
                    have := st0
                    rw [hj16, cp_all S HS.out] at this
                    exact this
                  have hge : ¬ ((j : Int) < 16) := by omega
                  clear st0 hjN
                  go_wp2_with fail
                  go_loopw [13] (fun i wr => ∃ r : Nat, r ≤ 10 ∧ i = .int .i64 r ∧ RSt w.heap.size gv g w S (drs r S) cur wr) (fun i _ => 10 - (intOf i).toNat)
                  case atStart => exact ⟨0, by omega, rfl, st5⟩
                  case round =>
                    obtain ⟨r, hr, rfl, st0⟩ := hrel
                    have ht := (size_drs r S).trans HS.out
                    generalize hT : drs r S = t0 at st0 ht
                    have HT := Lib.hid hT
                    have HS0 := Lib.hid ht
                    clear hT ht st5
                    by_cases hrN : r < 10
                    · have ri : (r : Int) < 10 := Int.ofNat_lt.2 hrN
                      go_wp2_with fail
                      refine (rq16 g 16 22 0 4 8 12 t0 _ HS0.out (by decide) st0.rg).mono ?_
                      rintro e w10 ⟨rfl, hg, hr⟩
                      have st1 := st0.step hg hr
                      have HS1 := Lib.hid ((size_qr t0 0 4 8 12).trans HS0.out)
                      clear hg hr st0
                      generalize hq0 : qr t0 0 4 8 12 = t1 at st1 HS1
                      have HQ0 := Lib.hid hq0
                      clear hq0
                      go_wp2_with fail
                      refine (rq16 g 16 22 1 5 9 13 t1 _ HS1.out (by decide) st1.rg).mono ?_
                      rintro e w11 ⟨rfl, hg, hr⟩
                      have st2 := st1.step hg hr
                      have HS2 := Lib.hid ((size_qr t1 1 5 9 13).trans HS1.out)
                      clear hg hr st1
                      generalize hq1 : qr t1 1 5 9 13 = t2 at st2 HS2
                      have HQ1 := Lib.hid hq1
                      clear hq1
                      go_wp2_with fail
                      refine (rq16 g 16 22 2 6 10 14 t2 _ HS2.out (by decide) st2.rg).mono ?_
                      rintro e w12 ⟨rfl, hg, hr⟩
                      have st3 := st2.step hg hr
                      have HS3 := Lib.hid ((size_qr t2 2 6 10 14).trans HS2.out)
                      clear hg hr st2
                      generalize hq2 : qr t2 2 6 10 14 = t3 at st3 HS3
                      have HQ2 := Lib.hid hq2
                      clear hq2
                      go_wp2_with fail
                      refine (rq16 g 16 22 3 7 11 15 t3 _ HS3.out (by decide) st3.rg).mono ?_
                      rintro e w13 ⟨rfl, hg, hr⟩
                      have st4 := st3.step hg hr
                      have HS4 := Lib.hid ((size_qr t3 3 7 11 15).trans HS3.out)
                      clear hg hr st3
                      generalize hq3 : qr t3 3 7 11 15 = t4 at st4 HS4
                      have HQ3 := Lib.hid hq3
                      clear hq3
                      go_wp2_with fail
                      refine (rq16 g 16 22 0 5 10 15 t4 _ HS4.out (by decide) st4.rg).mono ?_
                      rintro e w14 ⟨rfl, hg, hr⟩
                      have st5 := st4.step hg hr
                      have HS5 := Lib.hid ((size_qr t4 0 5 10 15).trans HS4.out)
                      clear hg hr st4
                      generalize hq4 : qr t4 0 5 10 15 = t5 at st5 HS5
                      have HQ4 := Lib.hid hq4
                      clear hq4
                      go_wp2_with fail
                      refine (rq16 g 16 22 1 6 11 12 t5 _ HS5.out (by decide) st5.rg).mono ?_
                      rintro e w15 ⟨rfl, hg, hr⟩
                      have st6 := st5.step hg hr
                      have HS6 := Lib.hid ((size_qr t5 1 6 11 12).trans HS5.out)
                      clear hg hr st5
                      generalize hq5 : qr t5 1 6 11 12 = t6 at st6 HS6
                      have HQ5 := Lib.hid hq5
                      clear hq5
                      go_wp2_with fail
                      refine (rq16 g 16 22 2 7 8 13 t6 _ HS6.out (by decide) st6.rg).mono ?_
                      rintro e w16 ⟨rfl, hg, hr⟩
                      have st7 := st6.step hg hr
                      have HS7 := Lib.hid ((size_qr t6 2 7 8 13).trans HS6.out)
                      clear hg hr st6
                      generalize hq6 : qr t6 2 7 8 13 = t7 at st7 HS7
                      have HQ6 := Lib.hid hq6
                      clear hq6
                      go_wp2_with fail
                      refine (rq16 g 16 22 3 4 9 14 t7 _ HS7.out (by decide) st7.rg).mono ?_
                      rintro e w17 ⟨rfl, hg, hr⟩
                      have st8 := st7.step hg hr
                      have HS8 := Lib.hid ((size_qr t7 3 4 9 14).trans HS7.out)
                      clear hg hr st7
                      generalize hq7 : qr t7 3 4 9 14 = t8 at st8 HS8
                      have HQ7 := Lib.hid hq7
                      clear hq7
                      go_wp2_with fail
                      go_roundw
                      case rel =>
                        refine ⟨r + 1, by omega, by go_num, ?_⟩
                        rw [drs, HT.out, dr, HQ0.out, HQ1.out, HQ2.out, HQ3.out, HQ4.out, HQ5.out, HQ6.out, HQ7.out]
                        exact st8
                      case measure => simp [intOf]; omega
                    · have hr10 : r = 10 := by omega
                      have HT10 := Lib.hid (show drs 10 S = t0 by rw [← hr10]; exact HT.out)
                      have hge : ¬ ((r : Int) < 10) := by omega
                      clear HT hrN hr10
                      have HST := Lib.hid st0
                      clear st0
                      go_wp2_with fail
                      go_loopw [14, 15] (fun v i wr' => ∃ j : Nat, j ≤ 16 ∧ i = .int .i64 j ∧ wr'.ownsRow wr.heap.size 5 1 v (4 * j) (blv (zz t0 S) j) ∧ Below wr.heap.size wr wr') (fun _ i _ => 16 - (intOf i).toNat)
                      case atStart => exact ⟨0, by omega, rfl, ⟨rfl, .inl ⟨rfl, rfl⟩⟩, Below.refl _ _⟩
                      case round =>
                        obtain ⟨j, hj, rfl, hown, hbb⟩ := hrel
                        have HOWN := Lib.hid hown
                        have HBB := Lib.hid hbb
                        have st := HST.out.carry HST.out.bel.size (Array.getElem?_eq_some_iff.1 HST.out.rv).1 (Array.getElem?_eq_some_iff.1 HST.out.rg).1 hbb
                        clear hown hbb
                        by_cases hjN : j < 16
                        · have jn : (0 : Int) ≤ j := Int.natCast_nonneg j
                          have ji : (j : Int) < 16 := Int.ofNat_lt.2 hjN
                          have c1 := st.word j hjN
                          have c2 := st.turned HS0.out j hjN
                          clear st
                          generalize hsj : S.getD j 0 = sj at c1
                          generalize htj : t0.getD j 0 = tj at c2
                          have HZ := Lib.hid (show zz t0 S j = tj + sj by rw [← hsj, ← htj]; rfl)
                          clear hsj htj
                          go_wp2_with fail
                          go_quiet (fail)
                          have hx : (wv tj + wv sj) % 4294967296 = wv (tj + sj) := w_add tj sj
                          rw [hx]
                          generalize hxx : tj + sj = x at HZ
                          have hsq := HBB.out.size
                          have HBQ := Lib.hid (show Below _ _ (wr.drewN nq) from ⟨HBB.out.os, HBB.out.tape, HBB.out.output, HBB.out.size, HBB.out.block⟩)
                          have HOQ := Lib.hid (show (wr.drewN nq).ownsRow _ _ _ _ _ _ from HOWN.out)
                          have hs0 : _ ≤ (wr.drewN nq).heap.size := hsq
                          generalize wr.drewN nq = wq at HBQ HOQ hs0 ⊢
                          clear hx hxx hsq c1 c2
                          have HA0 := Lib.hid (HOQ.out.alloc (.cells #[ob x 0] 5 (0, 0)))
                          have HM0 := Lib.hid (show 4 * j + 1 ≤ maxLen by unfold maxLen; omega)
                          have HN0 := Lib.hid (show (4 * j + 1) * 1 ≤ 140737488355328 by omega)
                          go_wp2_with (at_builtin; refine wpList_append_own _ rfl (.tmp 95) (.tmp 98) 37 rfl _ 5 i8 (.int .u8 0) 1 1 Try.underlying37 hj0 hy0 hy1 hy2 rfl (by decide) _ _ _ rfl HA0.out ⟨wq.heap.size, 0, none⟩ 1 1 [ob x 0] rfl rfl (one_cell wq _ _) (one_one _ rfl) HM0.out HN0.out (le_alloc hs0 _) ?_)
                          intro v1a w1a h1 h2 h3
                          have HB1a := Lib.hid (below_app HBQ.out _ _ _ _ _ HOQ.out h2)
                          have HO1a := Lib.hid h1
                          have hs1 := HB1a.out.size
                          clear h1 h2 h3 hs0
                          have HA1 := Lib.hid (HO1a.out.alloc (.cells #[ob x 1] 5 (0, 0)))
                          have HM1 := Lib.hid (show 4 * j + 1 + 1 ≤ maxLen by unfold maxLen; omega)
                          have HN1 := Lib.hid (show (4 * j + 1 + 1) * 1 ≤ 140737488355328 by omega)
                          go_wp2_with (at_builtin; refine wpList_append_own _ rfl (.tmp 99) (.tmp 103) 37 rfl _ 5 i8 (.int .u8 0) 1 1 Try.underlying37 hj0 hy0 hy1 hy2 rfl (by decide) _ _ _ rfl HA1.out ⟨w1a.heap.size, 0, none⟩ 1 1 [ob x 1] rfl rfl (one_cell w1a _ _) (one_one _ rfl) HM1.out HN1.out (le_alloc hs1 _) ?_)
                          intro v2a w2a h1 h2 h3
                          have HB2a := Lib.hid (below_app HB1a.out _ _ _ _ _ HO1a.out h2)
                          have HO2a := Lib.hid h1
                          have hs2 := HB2a.out.size
                          clear h1 h2 h3 hs1
                          have HA2 := Lib.hid (HO2a.out.alloc (.cells #[ob x 2] 5 (0, 0)))
                          have HM2 := Lib.hid (show 4 * j + 1 + 1 + 1 ≤ maxLen by unfold maxLen; omega)
                          have HN2 := Lib.hid (show (4 * j + 1 + 1 + 1) * 1 ≤ 140737488355328 by omega)
                          go_wp2_with (at_builtin; refine wpList_append_own _ rfl (.tmp 104) (.tmp 108) 37 rfl _ 5 i8 (.int .u8 0) 1 1 Try.underlying37 hj0 hy0 hy1 hy2 rfl (by decide) _ _ _ rfl HA2.out ⟨w2a.heap.size, 0, none⟩ 1 1 [ob x 2] rfl rfl (one_cell w2a _ _) (one_one _ rfl) HM2.out HN2.out (le_alloc hs2 _) ?_)
                          intro v3a w3a h1 h2 h3
                          have HB3a := Lib.hid (below_app HB2a.out _ _ _ _ _ HO2a.out h2)
                          have HO3a := Lib.hid h1
                          have hs3 := HB3a.out.size
                          clear h1 h2 h3 hs2
                          have HA3 := Lib.hid (HO3a.out.alloc (.cells #[ob x 3] 5 (0, 0)))
                          have HM3 := Lib.hid (show 4 * j + 1 + 1 + 1 + 1 ≤ maxLen by unfold maxLen; omega)
                          have HN3 := Lib.hid (show (4 * j + 1 + 1 + 1 + 1) * 1 ≤ 140737488355328 by omega)
                          go_wp2_with (at_builtin; refine wpList_append_own _ rfl (.tmp 109) (.tmp 113) 37 rfl _ 5 i8 (.int .u8 0) 1 1 Try.underlying37 hj0 hy0 hy1 hy2 rfl (by decide) _ _ _ rfl HA3.out ⟨w3a.heap.size, 0, none⟩ 1 1 [ob x 3] rfl rfl (one_cell w3a _ _) (one_one _ rfl) HM3.out HN3.out (le_alloc hs3 _) ?_)
                          intro v4a w4a h1 h2 h3
                          have HB4a := Lib.hid (below_app HB3a.out _ _ _ _ _ HO3a.out h2)
                          have HO4a := Lib.hid h1
                          have hs4 := HB4a.out.size
                          clear h1 h2 h3 hs3
                          go_wp2_with fail
                          go_roundw
                          case rel =>
                            refine ⟨j + 1, by omega, by go_num, ?_, HB4a.out⟩
                            have := HO4a.out
                            rw [blv, HZ.out, show 4 * (j + 1) = 4 * j + 1 + 1 + 1 + 1 by omega]
                            simpa only [List.append_assoc, List.cons_append, List.nil_append] using this
                          case measure => simp [intOf]; omega
                        · have ji : ¬ ((j : Int) < 16) := by omega
                          have hj16 : j = 16 := by omega
                          have HO6 := HOWN.out
                          rw [hj16, blv_bl] at HO6
                          obtain ⟨go, capo, rfl, _, _⟩ := HO6.form (by decide)
                          have hcv := conv_out (bl (zz t0 S) 16) (4 * 16) (length_bl _ _) HO6
                          have hbl : bs (bl (zz t0 S) 16) = blkB (iw k n c) := by
                            rw [HIW.out, ← HT10.out]
                            exact bs_bl S
                          rw [hbl] at hcv
                          have HF := Lib.hid (HST.out.bel.trans (HBB.out.mono HST.out.bel.size))
                          clear HO6 hj16 hjN HOWN HBB st hbl
                          go_wp2_with fail
                          go_ret
                          exact ⟨rfl, HF.out⟩
end Go.Proofs.Ytkfacnegfkgcgaa
