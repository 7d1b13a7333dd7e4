/-
  poly.least: the walk.
-/
import Derived.Test.YtkfacnegfkgcgaaPWd
namespace Go.Proofs.Ytkfacnegfkgcgaa
open Go.RowKit MS

theorem in27_62 {x : L5} (h : x.in27) (j : Nat) : getL x j < 4611686018427387904 := by
  obtain ⟨h0, h1, h2, h3, h4⟩ := h
  unfold getL
  split <;> omega
theorem in27_car {x : L5} (h : x.in27) (j : Nat) : getL (carL x) j < 4611686018427387904 := by
  obtain ⟨h0, h1, h2, h3, h4⟩ := h
  obtain ⟨c0, c1, c2, c3, c4⟩ := carL_lt x (by omega) (by omega) (by omega) (by omega) (by omega)
  unfold getL
  split <;> omega
theorem plus_lt {Z : Nat → Nat} (h : ∀ j, Z j < 67108864) (j : Nat) : upd Z 0 (Z 0 + 5) j < 4611686018427387904 := by
  have h0 := h 0
  have h1 := h j
  unfold upd
  split <;> omega

set_option maxRecDepth 1000000 in
set_option maxHeartbeats 2000000 in
theorem polyleast_any (x : L5) (hx : x.in27) (w : World) :
    Calls Try.prog 43 #[.agg (lvA x)] w fun e w' => e = .returned (.agg (lvA (leastL x))) ∧ Below w.heap.size w w' := by
  have R0 := Lib.hid (rwL2 w (lvA x) #[.int .u64 0, .int .u64 0, .int .u64 0, .int .u64 0, .int .u64 0])
  have C1 := Lib.hid (fun w => carry_any x (in27_62 hx) w)
  have C2 := Lib.hid (fun w => carry_any (carL x) (in27_car hx) w)
  obtain ⟨pr, po⟩ := plus5_row (twice5 x)
  have BZ := getL_26 (twice5_in hx)
  have HLS := Lib.hid (show leastL x = if 0 < (plus5 (twice5 x)).1 then (plus5 (twice5 x)).2 else twice5 x from rfl)
  have HZ0 := Lib.hid (show (twice5 x).a = getL (twice5 x) 0 from rfl)
  rw [HZ0.out] at pr po
  have HL2 := Lib.hid (show lvA (carL (carL x)) = rowF (getL (twice5 x)) from rfl)
  rw [HL2.out] at C2
  have HRN := Lib.hid (show 0 < (plus5 (twice5 x)).1 → lvA (leastL x) = rowF (getL (plus5 (twice5 x)).2) from fun h => by rw [HLS.out, if_pos h]; rfl)
  have HRZ := Lib.hid (show ¬ 0 < (plus5 (twice5 x)).1 → lvA (leastL x) = rowF (getL (twice5 x)) from fun h => by rw [HLS.out, if_neg h]; rfl)
  rw [← pr, ← po] at HRN
  rw [← po] at HRZ
  obtain ⟨Z, hZ⟩ : ∃ Z, getL (twice5 x) = Z := ⟨_, rfl⟩
  rw [hZ] at HRN HRZ C2 BZ
  obtain ⟨res, hres⟩ : ∃ r, lvA (leastL x) = r := ⟨_, rfl⟩
  rw [hres] at HRN HRZ ⊢
  obtain ⟨rx, hrx⟩ : ∃ r, lvA x = r := ⟨_, rfl⟩
  have SX := Lib.hid (show rx.size = 5 from by rw [← hrx]; rfl)
  have IX := Lib.hid (show (Try.prog.info? 61).map (·.size) = some rx.size from by rw [← hrx]; exact infoL _)
  rw [hrx] at R0 C1 ⊢
  obtain ⟨ry, hry⟩ : ∃ r, lvA (carL x) = r := ⟨_, rfl⟩
  rw [hry] at C1 C2
  have BL := Lib.hid (plus_lt BZ)
  have BZ0 := Lib.hid (BZ 0)
  obtain ⟨L, hL⟩ : ∃ L, upd Z 0 (Z 0 + 5) = L := ⟨_, rfl⟩
  rw [hL] at HRN HRZ BL
  have HLL := Lib.hid hL
  have BC := Lib.hid (cvN_le L BL.out)
  have IZ := Lib.hid (infoL Z)
  have OZ := Lib.hid (one_rowF Z)
  have LZ := Lib.hid (show rx.size = (rowF Z).size from SX.out)
  have LZ0 := Lib.hid (show (#[.int .u64 0, .int .u64 0, .int .u64 0, .int .u64 0, .int .u64 0] : Array Value).size = (rowF Z).size from rfl)
  clear hx pr po BZ HLS HZ0 HL2 hZ hres hrx hry hL
  go_enter Try.func43, Try.ntmps43
  go_upto_region 1 with fail
  generalize (w.alloc (.cells rx 61 (0, 0))).alloc (.cells #[.int .u64 0, .int .u64 0, .int .u64 0, .int .u64 0, .int .u64 0] 61 (0, 0)) = W at R0 ⊢
  generalize hA : w.heap.size = ga at *
  generalize hB : ga + 1 = gb at *
  have HA := Lib.hid hA
  clear hA hB
  have RW0 := Lib.hid (R0.out.row 0)
  go_wp2_with (with_reducible refine wpList_load_row rfl 61 (.tmp 1) rfl ga rfl 61 rx (0, 0) _ RW0.out Try.underlying61 rfl IX.out ?_)
  refine (C1.out _).mono ?_
  rintro e w1 ⟨rfl, hb1⟩
  have R1 := Lib.hid (R0.out.on hb1)
  clear hb1 R0 RW0 C1
  go_wp2_with fail
  refine (C2.out _).mono ?_
  rintro e w2 ⟨rfl, hb2⟩
  have R2 := Lib.hid (R1.out.on hb2)
  have RW2 := Lib.hid (R2.out.row 0)
  have r3 := R2.out.store 0 (rowF Z)
  simp only [List.set_cons_zero] at r3
  have R3 := Lib.hid r3
  clear hb2 R1 C2 r3
  go_upto_region 2 with (with_reducible refine wpList_store_row rfl 61 (.tmp 1) (.tmp 8) rfl ga (rowF Z) rfl rfl 61 rx RW2.out IZ.out LZ.out OZ.out ?_)
  generalize World.setRow _ _ (rowF Z) = w3 at R3 ⊢
  clear RW2 R2 LZ
  have RW3 := Lib.hid (R3.out.row 0)
  have r4 := R3.out.alloc #[.int .u64 0, .int .u64 0, .int .u64 0, .int .u64 0, .int .u64 0] 61
  simp only [List.cons_append, List.nil_append] at r4
  have RW4 := Lib.hid (r4.row 2)
  have r5 := r4.store 2 (rowF Z)
  simp only [List.set_cons_zero, List.set_cons_succ] at r5
  have R5 := Lib.hid r5
  clear r4 r5
  go_upto_region 3 with (first
    | (with_reducible refine wpList_load_row rfl 61 (.tmp 1) rfl ga rfl 61 (rowF Z) (0, 0) _ RW3.out Try.underlying61 rfl IZ.out ?_)
    | (with_reducible refine wpList_store_row rfl 61 (.tmp 3) (.tmp 9) rfl w3.heap.size (rowF Z) rfl rfl 61 #[.int .u64 0, .int .u64 0, .int .u64 0, .int .u64 0, .int .u64 0] RW4.out IZ.out LZ0.out OZ.out ?_))
  generalize World.setRow _ _ (rowF Z) = w5 at R5 ⊢
  generalize w3.heap.size = gc at R5 ⊢
  clear RW3 RW4 R3 LZ0
  have k0 := R5.out.cell 2 0 (rowF_get _ 0 (by decide))
  have f0 := R5.out.free 2 0
  have p0 := R5.out.put 2 0 (.int .u64 ((Z 0 + 5 : Nat) : Int))
  rw [rowF_set _ _ _ (by decide), HLL.out, ← prog_zero L (cvG L)] at p0
  simp only [List.set_cons_zero, List.set_cons_succ] at p0
  have z0 : (Z 0 : Int) < 67108864 := by have := BZ0.out; omega
  have q0 : ((Z 0 + 5 : Nat) : Int) = (Z 0 : Int) + 5 := by omega
  rw [q0] at p0
  have P0 := Lib.hid p0
  obtain ⟨z, hz⟩ : ∃ z, Z 0 = z := ⟨_, rfl⟩
  rw [hz] at k0 P0 z0
  clear p0 q0 hz R5
  go_upto_region 4 with fail
  generalize World.setCell _ _ _ = w6 at P0 ⊢
  clear k0 f0 z0
  go_wp2_with fail
  go_loopw [4, 14] (fun o i wr => ∃ j : Nat, j ≤ 5 ∧ i = .int .i64 j ∧ o = .int .u64 (cvN L j : Nat) ∧ Rw w [(ga, rowF Z, 61), (gb, #[.int .u64 0, .int .u64 0, .int .u64 0, .int .u64 0, .int .u64 0], 61), (gc, rowF (prog L (cvG L) j), 61)] wr) (fun _ i _ => 5 - (intOf i).toNat)
  case atStart => exact ⟨0, by omega, rfl, rfl, P0.out⟩
  case round =>
    obtain ⟨j, hj, rfl, rfl, hr⟩ := hrel
    have R4 := Lib.hid hr
    clear hr P0
    by_cases hlt : j < 5
    · have j1 : (j : Int) < 5 := by omega
      have j0 : (0 : Int) ≤ j := by omega
      have cj := R4.out.cell 2 j (rowF_get _ j hlt)
      have fj := R4.out.free 2 j
      rw [prog_at] at cj
      have bj := BL.out j
      have lo := BC.out j
      have put := R4.out.put 2 j (.int .u64 ((L j + cvN L j : Nat) : Int))
      rw [rowF_set _ _ _ hlt] at put
      simp only [List.set_cons_zero, List.set_cons_succ] at put
      have ck := put.cell 2 j (rowF_get _ j hlt)
      have fk := put.free 2 j
      rw [show upd (prog L (cvG L) j) j (L j + cvN L j) j = L j + cvN L j from if_pos rfl] at ck
      have put2 := put.put 2 j (.int .u64 ((cvG L j : Nat) : Int))
      simp only [List.set_cons_zero, List.set_cons_succ] at put2
      rw [rowF_set _ _ _ hlt, upd_upd, prog_set] at put2
      have PUT := Lib.hid put2
      obtain ⟨S, hS⟩ : ∃ S, L j + cvN L j = S := ⟨_, rfl⟩
      have qs : (L j : Int) + (cvN L j : Int) = (S : Int) := by omega
      have hs : (S : Int) / 67108864 = ((cvN L (j + 1) : Nat) : Int) := by rw [show cvN L (j + 1) = (L j + cvN L j) / 67108864 from rfl]; omega
      have ha : bits .and .u64 (S : Int) 67108863 = ((cvG L j : Nat) : Int) := by
        rw [← hS, and26 (L j + cvN L j) (by omega)]
        rfl
      have bS : (S : Int) < 4611686155866341376 := by omega
      rw [hS] at ck fk PUT put
      have HLT := Lib.hid hlt
      generalize L j = xj at cj bj qs
      generalize cvN L j = oj at lo qs ⊢
      generalize cvG L j = gj at PUT ha
      generalize ho : cvN L (j + 1) = oj1 at hs
      have HO := Lib.hid ho
      have o0 : (0 : Int) ≤ (oj : Int) := by omega
      have x0 : (0 : Int) ≤ (xj : Int) := by omega
      clear hlt hj ho put put2 hS bj lo
      go_upto_region 9 with fail
      generalize wr.setCell ⟨gc, j, none⟩ (.int .u64 (S : Int)) = w6 at ck fk PUT ⊢
      clear cj fj qs
      go_wp2_with fail
      go_roundw
      case rel => exact ⟨j + 1, HLT.out, by go_num, by rw [HO.out], PUT.out⟩
      case measure => simp [intOf]; omega
    · have j1 : ¬ ((j : Int) < 5) := by omega
      have hj5 : j = 5 := by omega
      have r5 := R4.out
      rw [hj5, prog_end] at r5
      rw [hj5]
      have R5 := Lib.hid r5
      have IN := Lib.hid (infoL (cvG L))
      have ON := Lib.hid (one_rowF (cvG L))
      have LN := Lib.hid (show (#[.int .u64 0, .int .u64 0, .int .u64 0, .int .u64 0, .int .u64 0] : Array Value).size = (rowF (cvG L)).size from rfl)
      have LZ := Lib.hid (show (#[.int .u64 0, .int .u64 0, .int .u64 0, .int .u64 0, .int .u64 0] : Array Value).size = (rowF Z).size from rfl)
      have RWA := Lib.hid (r5.row 2)
      have RWB := Lib.hid (r5.row 0)
      have RWC := Lib.hid (r5.row 1)
      generalize rowF (cvG L) = rn at *
      generalize rowF Z = rz at *
      generalize cvN L 5 = o at *
      clear r5 hj5 hlt hj R4 BC BL
      by_cases h0 : 0 < o
      · have t1 : (o : Int) > 0 := by omega
        have hr := HRN.out h0
        clear h0 HRN HRZ
        subst hr
        go_wp2_with (first
          | (with_reducible refine wpList_load_row rfl 61 (.tmp 3) rfl gc rfl 61 res (0, 0) _ RWA.out Try.underlying61 rfl IN.out ?_)
          | (with_reducible refine wpList_store_row rfl 61 (.tmp 2) (.tmp 35) rfl gb res rfl rfl 61 #[.int .u64 0, .int .u64 0, .int .u64 0, .int .u64 0, .int .u64 0] RWC.out IN.out LN.out ON.out ?_))
        have R6 := R5.out.store 1 res
        exact bodyPost_ret (results_cell_row rfl _ _ gb 61 res (0, 0) _ rfl (R6.row 1) Try.underlying61 rfl IN.out) rfl ⟨rfl, HA.out ▸ R6.bel⟩
      · have t1 : ¬ (o : Int) > 0 := by omega
        have hr := HRZ.out h0
        clear h0 HRN HRZ
        subst hr
        go_wp2_with (first
          | (with_reducible refine wpList_load_row rfl 61 (.tmp 1) rfl ga rfl 61 res (0, 0) _ RWB.out Try.underlying61 rfl IZ.out ?_)
          | (with_reducible refine wpList_store_row rfl 61 (.tmp 2) (.tmp 36) rfl gb res rfl rfl 61 #[.int .u64 0, .int .u64 0, .int .u64 0, .int .u64 0, .int .u64 0] RWC.out IZ.out LZ.out OZ.out ?_))
        have R6 := R5.out.store 1 res
        exact bodyPost_ret (results_cell_row rfl _ _ gb 61 res (0, 0) _ rfl (R6.row 1) Try.underlying61 rfl IZ.out) rfl ⟨rfl, HA.out ▸ R6.bel⟩
end Go.Proofs.Ytkfacnegfkgcgaa
