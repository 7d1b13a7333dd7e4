/-
  poly.mul: the walk.
-/
import Derived.Test.YtkfacnegfkgcgaaPWc
namespace Go.Proofs.Ytkfacnegfkgcgaa
open Go.RowKit MS

theorem run_index_rowL (T : TypeId) (hu : Try.prog.underlying T = some (.array 5 59)) (f : Nat → Nat) (j : Nat) (hj : j < 5) (w : World) : (Instr.index T (.agg (rowF f)) (.int .i64 j)).run Try.prog w = .ok (.int .u64 (f j : Nat)) w := by
  have hn : (0 : Int) ≤ j ∧ (j : Int) < 5 := by omega
  have hi : (Try.prog.info? 59).map (·.size) = some 1 := by kernel_rfl
  cases hq : Try.prog.info? 59 with
  | none => simp [hq] at hi
  | some i =>
    have hs : i.size = 1 := by simpa [hq] using hi
    simp [Instr.index, run_underlying hu, asIntOf, go_sem, sizeOf, typeInfo, hq, hs, hn]
    rw [if_pos hj, rowF_get f j hj]
    rfl
theorem rwL3 (w : World) (r0 r1 r2 r3 : Array Value) : Rw w [(w.heap.size, r0, 61), (w.heap.size + 1, r1, 61), (w.heap.size + 1 + 1, r2, 61), (w.heap.size + 1 + 1 + 1, r3, 61)] ((((w.alloc (.cells r0 61 (0, 0))).alloc (.cells r1 61 (0, 0))).alloc (.cells r2 61 (0, 0))).alloc (.cells r3 61 (0, 0))) := by
  have h := ((((Rw.nil w).alloc r0 61).alloc r1 61).alloc r2 61).alloc r3 61
  simpa using h
theorem outP_zero (X Y : Nat → Nat) : rowF (outP X Y 0) = #[.int .u64 0, .int .u64 0, .int .u64 0, .int .u64 0, .int .u64 0] := rfl

set_option maxRecDepth 1000000 in
set_option maxHeartbeats 3000000 in
theorem polymul_any (h r : L5) (hh : h.in28) (hr : r.in26) (w : World) :
    Calls Try.prog 41 #[.agg (lvA h), .agg (lvA r)] w fun e w' => e = .returned (.agg (lvA (mulL h r))) ∧ Below w.heap.size w w' := by
  have R0 := Lib.hid (rwL3 w (lvA h) (lvA r) #[.int .u64 0, .int .u64 0, .int .u64 0, .int .u64 0, .int .u64 0] #[.int .u64 0, .int .u64 0, .int .u64 0, .int .u64 0, .int .u64 0])
  have BX := Lib.hid (getL_28 hh)
  have BY := Lib.hid (getL_26 hr)
  have HEND := Lib.hid (outP_end h r)
  have HMR := Lib.hid (mulL_row h r)
  have HC := Lib.hid (fun w => carry_any (mulD h r) (fun j => by
    obtain ⟨m0, m1, m2, m3, m4⟩ := mulD_lt hh hr
    unfold getL
    split <;> omega) w)
  obtain ⟨c0, c1, c2, c3, c4⟩ := carL_lt (mulD h r) (mulD_lt hh hr).1 (mulD_lt hh hr).2.1 (mulD_lt hh hr).2.2.1 (mulD_lt hh hr).2.2.2.1 (mulD_lt hh hr).2.2.2.2
  have HLR := Lib.hid (show lvA (mulL h r) = rowF (getL (mulL h r)) from rfl)
  have HLX := Lib.hid (show lvA h = rowF (getL h) from rfl)
  have HLY := Lib.hid (show lvA r = rowF (getL r) from rfl)
  have HCA := Lib.hid (show getL (carL (mulD h r)) 0 = (carL (mulD h r)).a ∧ getL (carL (mulD h r)) 1 = (carL (mulD h r)).b from ⟨rfl, rfl⟩)
  rw [HLR.out, HLX.out, HLY.out]
  rw [HLX.out, HLY.out] at R0
  obtain ⟨X, hX⟩ : ∃ X, getL h = X := ⟨_, rfl⟩
  obtain ⟨Y, hY⟩ : ∃ Y, getL r = Y := ⟨_, rfl⟩
  obtain ⟨D, hD⟩ : ∃ D, mulD h r = D := ⟨_, rfl⟩
  obtain ⟨rl, hrl⟩ : ∃ rl, rowF (getL (mulL h r)) = rl := ⟨_, rfl⟩
  rw [hX] at R0 BX HEND ⊢
  rw [hY] at R0 BY HEND ⊢
  rw [hrl] at HMR ⊢
  rw [hD] at HEND HMR HC HCA c0 c1
  rw [hD] at c2 c3 c4
  have IR := Lib.hid (show (Try.prog.info? 61).map (·.size) = some rl.size from by rw [← hrl]; exact infoL _)
  have OR := Lib.hid (show rl.all (·.oneCell') = true from by rw [← hrl]; exact one_rowF _)
  have LR := Lib.hid (show (#[.int .u64 0, .int .u64 0, .int .u64 0, .int .u64 0, .int .u64 0] : Array Value).size = rl.size from by rw [← hrl]; rfl)
  have IX := Lib.hid (infoL X)
  have IY := Lib.hid (infoL Y)
  clear HLR HLX HLY hX hY hD hrl hh hr
  go_enter Try.func41, Try.ntmps41
  go_upto_region 2 with fail
  generalize (((w.alloc (.cells (rowF X) 61 (0, 0))).alloc (.cells (rowF Y) 61 (0, 0))).alloc (.cells #[.int .u64 0, .int .u64 0, .int .u64 0, .int .u64 0, .int .u64 0] 61 (0, 0))).alloc (.cells #[.int .u64 0, .int .u64 0, .int .u64 0, .int .u64 0, .int .u64 0] 61 (0, 0)) = w3 at R0 ⊢
  generalize hA : w.heap.size = ga at *
  generalize hB : ga + 1 = gb at *
  generalize hG : gb + 1 = gc at *
  generalize hE : gc + 1 = gd at *
  have HA := Lib.hid hA
  clear hA hB hG hE
  have R3 := Lib.hid (show Rw w [(ga, rowF X, 61), (gb, rowF Y, 61), (gc, rowF (fun _ => 0), 61), (gd, rowF (outP X Y 0), 61)] w3 from R0.out)
  have RA := Lib.hid (R3.out.row 0)
  clear R0
  go_wp2_with (with_reducible refine wpList_load_row rfl 61 (.tmp 2) rfl ga rfl 61 (rowF X) (0, 0) _ RA.out Try.underlying61 rfl IX.out ?_)
  clear RA
  go_loopw [12] (fun c wr => ∃ i : Nat, i ≤ 5 ∧ c = .int .i64 i ∧ Rw w [(ga, rowF X, 61), (gb, rowF Y, 61), (gc, rowF (fun _ => 0), 61), (gd, rowF (outP X Y i), 61)] wr) (fun c _ => 5 - (intOf c).toNat)
  case atStart => exact ⟨0, by omega, rfl, R3.out⟩
  case round =>
    obtain ⟨i, hi, rfl, hr⟩ := hrel
    have R4 := Lib.hid hr
    have RB := Lib.hid (hr.row 1)
    clear hr R3
    by_cases hlt : i < 5
    · have i1 : (i : Int) < 5 := by omega
      have i0 : (0 : Int) ≤ i := by omega
      have hix := fun w => run_index_rowL 61 Try.underlying61 X i hlt w
      have HI := Lib.hid hlt
      clear hlt hi c0 c1 c2 c3 c4
      go_wp2_with (with_reducible refine wpList_load_row rfl 61 (.tmp 3) rfl gb rfl 61 (rowF Y) (0, 0) _ RB.out Try.underlying61 rfl IY.out ?_)
      clear hix RB
      obtain ⟨wo, rfl⟩ : ∃ wo : World, wo = wr := ⟨_, rfl⟩
      go_loopw [17] (fun c wr => ∃ j : Nat, j ≤ 5 ∧ c = .int .i64 j ∧ Rw w [(ga, rowF X, 61), (gb, rowF Y, 61), (gc, rowF (fun _ => 0), 61), (gd, rowF (innP X Y (outP X Y i) i j), 61)] wr) (fun c _ => 5 - (intOf c).toNat)
      case atStart => exact ⟨0, by omega, rfl, R4.out⟩
      case round =>
        obtain ⟨j, hj, rfl, hr⟩ := hrel
        have R5 := Lib.hid hr
        clear hr R4
        by_cases hlt : j < 5
        · have j1 : (j : Int) < 5 := by omega
          have j0 : (0 : Int) ≤ j := by omega
          have hiy := fun w => run_index_rowL 61 Try.underlying61 Y j hlt w
          have hk5 := ixP_lt HI.out hlt
          have cl := R5.out.cell 3 (ixP i j) (rowF_get _ _ hk5)
          have fl := R5.out.free 3 (ixP i j)
          have hg := innP_lt BX.out BY.out HI.out (Nat.le_of_lt hlt) (ixP i j)
          have ht := tmP_le BX.out BY.out i j
          have HJ := Lib.hid hlt
          have hput := R5.out.put 3 (ixP i j) (.int .u64 ((innP X Y (outP X Y i) i j (ixP i j) + tmP X Y i j : Nat) : Int))
          rw [rowF_set _ _ _ hk5, show upd (innP X Y (outP X Y i) i j) (ixP i j) (innP X Y (outP X Y i) i j (ixP i j) + tmP X Y i j) = innP X Y (outP X Y i) i (j + 1) from rfl] at hput
          simp only [List.set_cons_zero, List.set_cons_succ] at hput
          have bx := BX.out i
          have bby := BY.out j
          obtain ⟨k, hk⟩ : ∃ k, ixP i j = k := ⟨_, rfl⟩
          rw [hk] at cl fl hg hput
          obtain ⟨f, hf⟩ : ∃ f, innP X Y (outP X Y i) i j k = f := ⟨_, rfl⟩
          rw [hf] at cl hg hput
          obtain ⟨y', hy'⟩ : ∃ y', (if i + j ≥ 5 then Y j * 5 else Y j) = y' := ⟨_, rfl⟩
          have hp : tmP X Y i j = X i * y' := by rw [tmP, hy']
          obtain ⟨P, hP⟩ : ∃ P, X i * y' = P := ⟨_, rfl⟩
          rw [hp, hP] at hput ht
          have qp : (X i : Int) * (y' : Int) = (P : Int) := by rw [← hP]; exact (Int.natCast_mul _ _).symm
          obtain ⟨S, hS⟩ : ∃ S, f + P = S := ⟨_, rfl⟩
          rw [hS] at hput
          have qs : (f : Int) + (P : Int) = (S : Int) := by omega
          have PUT := Lib.hid hput
          have ht' : P ≤ 90071992547409920 := ht
          have bS : (S : Int) ≤ 2341871806232657920 := by omega
          have bP : (P : Int) ≤ 90071992547409920 := by omega
          have P0 : (0 : Int) ≤ (P : Int) := by omega
          have f0 : (0 : Int) ≤ (f : Int) := by omega
          have by' : (y' : Int) < 335544320 := by rw [← hy']; split <;> omega
          have by0 : (0 : Int) ≤ (y' : Int) := by omega
          have bxi : (X i : Int) < 268435456 := by omega
          have bx0 : (0 : Int) ≤ (X i : Int) := by omega
          have kn : (k : Int) < 5 := by rw [← hk]; omega
          have k0 : (0 : Int) ≤ k := by omega
          clear hP hS hp ht ht' hf hg hput hk5
          by_cases h5 : i + j ≥ 5
          case' pos =>
            have q5 : (i : Int) + (j : Int) ≥ 5 := by omega
            have qk : (i : Int) + (j : Int) - 5 = (k : Int) := by rw [← hk, ixP, if_pos h5]; omega
            have qy : (Y j : Int) * 5 = (y' : Int) := by rw [← hy', if_pos h5]; omega
            have qb : (Y j : Int) < 67108864 := by omega
            have qb0 : (0 : Int) ≤ (Y j : Int) := by omega
          case' neg =>
            have q5 : ¬ ((i : Int) + (j : Int) ≥ 5) := by omega
            have qk : (i : Int) + (j : Int) = (k : Int) := by rw [← hk, ixP, if_neg h5]; omega
            have qy : Y j = y' := by rw [← hy', if_neg h5]
            have qb : True := trivial
            have qb0 : True := trivial
            rw [qy] at hiy
          all_goals
            have hk9 := Lib.hid hk
            generalize X i = xi at *
            clear hk hy' h5 hj hlt bx bby R5
            have HID := Lib.hid (And.intro bS (And.intro bP (And.intro P0 (And.intro f0 (And.intro qs (And.intro qp (And.intro by' (And.intro by0 (And.intro bxi bx0)))))))))
            clear bS bP P0 f0 qs qp by' by0 bxi bx0
            go_upto_region 12 with fail
            obtain ⟨bS, bP, P0, f0, qs, qp, by', by0, bxi, bx0⟩ := HID.out
            clear hiy qk qy q5 HID
            go_wp2_with fail
            go_roundw
            case rel => exact ⟨j + 1, by have := HJ.out; omega, by go_num, PUT.out⟩
            case measure => simp [intOf]; have := HJ.out; omega
        · have j1 : ¬ ((j : Int) < 5) := by omega
          have hj5 : j = 5 := by omega
          have r6 := R5.out
          rw [hj5] at r6
          have R6 := Lib.hid (show Rw w [(ga, rowF X, 61), (gb, rowF Y, 61), (gc, rowF (fun _ => 0), 61), (gd, rowF (outP X Y (i + 1)), 61)] wr from r6)
          clear r6 hj5 hlt hj R5
          go_wp2_with fail
          go_roundw
          case rel => exact ⟨i + 1, by have := HI.out; omega, by go_num, R6.out⟩
          case measure => simp [intOf]; have := HI.out; omega
    · have i1 : ¬ ((i : Int) < 5) := by omega
      have hi5 : i = 5 := by omega
      have r5 := R4.out
      rw [hi5, HEND.out] at r5
      have R5 := Lib.hid r5
      have RD := Lib.hid (r5.row 3)
      have ID := Lib.hid (infoL (getL D))
      have HCD := Lib.hid (show ∀ w, Calls Try.prog 55 #[.agg (rowF (getL D))] w fun e w' => e = .returned (.agg (rowF (getL (carL D)))) ∧ Below w.heap.size w w' from HC.out)
      obtain ⟨h0, h1⟩ := HCA.out
      have IC := Lib.hid (infoL (getL (carL D)))
      have OC := Lib.hid (one_rowF (getL (carL D)))
      have LC := Lib.hid (show (rowF (getL D)).size = (rowF (getL (carL D))).size from rfl)
      rw [← h0, ← h1] at HMR
      rw [← h0] at c0
      rw [← h1] at c1
      generalize getL (carL D) = C at *
      generalize rowF (getL D) = rd at *
      clear hi5 hlt hi RB BX BY R4 r5 HC HEND HCA h0 h1 c2 c3 c4
      have HMR2 := HMR.out
      have hs : ∃ s, C 1 + C 0 / 67108864 = s := ⟨_, rfl⟩
      obtain ⟨s, hs⟩ := hs
      obtain ⟨q, hq⟩ : ∃ q, C 0 / 67108864 = q := ⟨_, rfl⟩
      obtain ⟨m, hm⟩ : ∃ m, C 0 % 67108864 = m := ⟨_, rfl⟩
      have qq : (C 0 : Int) / 67108864 = (q : Int) := by omega
      have qs : (C 1 : Int) + (q : Int) = (s : Int) := by omega
      have ha := and26 (C 0) (by omega)
      rw [hs, hm] at HMR2
      rw [hm] at ha
      have HM3 := Lib.hid HMR2
      have bs : (s : Int) < 137505000000 := by omega
      have bq : (q : Int) ≤ 2048 := by omega
      have bq0 : (0 : Int) ≤ (q : Int) := by omega
      have e1 := Lib.hid (show upd C 1 s 0 = C 0 from rfl)
      clear HMR HMR2 hs hq hm
      go_wp2_with (with_reducible refine wpList_load_row rfl 61 (.tmp 5) rfl gd rfl 61 rd (0, 0) _ RD.out Try.underlying61 rfl ID.out ?_)
      refine (HCD.out _).mono ?_
      rintro e w5 ⟨rfl, hb5⟩
      have R6 := Lib.hid (R5.out.on hb5)
      have RE := Lib.hid (R6.out.row 3)
      have R7 := R6.out.store 3 (rowF C)
      simp only [List.set_cons_zero, List.set_cons_succ] at R7
      have R8 := Lib.hid R7
      clear hb5 R7 RD R5 R6
      go_upto_region 16 with (with_reducible refine wpList_store_row rfl 61 (.tmp 5) (.tmp 41) rfl gd (rowF C) rfl rfl 61 rd RE.out IC.out LC.out OC.out ?_)
      generalize World.setRow _ _ (rowF C) = w7 at R8 ⊢
      clear RE IC LC OC ID HCD
      have k1 := R8.out.cell 3 1 (rowF_get _ 1 (by decide))
      have k0 := R8.out.cell 3 0 (rowF_get _ 0 (by decide))
      have f1 := R8.out.free 3 1
      have p1 := R8.out.put 3 1 (.int .u64 (s : Int))
      rw [rowF_set _ _ _ (by decide)] at p1
      simp only [List.set_cons_zero, List.set_cons_succ] at p1
      have k2 := p1.cell 3 0 (rowF_get _ 0 (by decide))
      rw [e1.out] at k2
      have f2 := p1.free 3 0
      have p2 := p1.put 3 0 (.int .u64 (m : Int))
      rw [rowF_set _ _ _ (by decide), HM3.out] at p2
      simp only [List.set_cons_zero, List.set_cons_succ] at p2
      have P2 := Lib.hid p2
      clear p1 p2 R8 HM3 e1
      generalize C 1 = x1 at *
      generalize C 0 = x0 at *
      go_upto_region 18 with fail
      generalize World.setCell _ ⟨gd, 0, none⟩ _ = w9 at P2 ⊢
      have RWA := Lib.hid (P2.out.row 3)
      have RWB := Lib.hid (P2.out.row 2)
      clear k0 k1 k2 f1 f2 ha qq qs c0 c1 bs bq bq0
      have LR2 := Lib.hid (show (rowF (fun _ => 0)).size = rl.size from LR.out)
      go_wp2_with (first
        | (with_reducible refine wpList_load_row rfl 61 (.tmp 5) rfl gd rfl 61 rl (0, 0) _ RWA.out Try.underlying61 rfl IR.out ?_)
        | (with_reducible refine wpList_store_row rfl 61 (.tmp 4) (.tmp 53) rfl gc rl rfl rfl 61 (rowF (fun _ => 0)) RWB.out IR.out LR2.out OR.out ?_))
      have R9 := P2.out.store 2 rl
      exact bodyPost_ret (results_cell_row rfl _ _ gc 61 rl (0, 0) _ rfl (R9.row 2) Try.underlying61 rfl IR.out) rfl ⟨rfl, HA.out ▸ R9.bel⟩
end Go.Proofs.Ytkfacnegfkgcgaa
