/-
  Texts of this seat, put together (what is needed of them): PWd, PWe, PWf, PWg, PWh, AeA, AeB, AeC, PRa, PRb, PRc, PRd, PRe.
-/
import Derived.Test.YtfckjilhkdlpfaaGreatDoorZZ6
import Derived.Shelf.Spec.BitsCarry
import Derived.Laws.OwnMore
import Derived.OwnWalk
import Derived.Deep.RegionWith
import Derived.Deep.DeepCutAuto

namespace Go.Proofs.YtfckjilhkdlpfaaGreatDoor
open Go.RowKit MS
theorem run_index_rowL (T : TypeId) (hu : Tryz.prog.underlying T = some (.array 5 92)) (f : Nat → Nat) (j : Nat) (hj : j < 5) (w : World) : (Instr.index T (.agg (rowF f)) (.int .i64 j)).run Tryz.prog w = .ok (.int .u64 (f j : Nat)) w := by
  have hn : (0 : Int) ≤ j ∧ (j : Int) < 5 := by omega
  have hi : (Tryz.prog.info? 92).map (·.size) = some 1 := by kernel_rfl
  cases hq : Tryz.prog.info? 92 with
  | none => simp [hq] at hi
  | some i =>
    have hs : i.size = 1 := by simpa [hq] using hi
    simp [Instr.index, run_underlying hu, asIntOf, go_sem, sizeOf, typeInfo, hq, hs, hn]
    rw [if_pos hj, rowF_get f j hj]
    rfl
theorem rwL3 (w : World) (r0 r1 r2 r3 : Array Value) : Rw w [(w.heap.size, r0, 142), (w.heap.size + 1, r1, 142), (w.heap.size + 1 + 1, r2, 142), (w.heap.size + 1 + 1 + 1, r3, 142)] ((((w.alloc (.cells r0 142 (0, 0))).alloc (.cells r1 142 (0, 0))).alloc (.cells r2 142 (0, 0))).alloc (.cells r3 142 (0, 0))) := by
  have h := ((((Rw.nil w).alloc r0 142).alloc r1 142).alloc r2 142).alloc r3 142
  simpa using h
set_option maxRecDepth 1000000 in
set_option maxHeartbeats 3000000 in
theorem polymul_any (h r : L5) (hh : h.in28) (hr : r.in26) (w : World) :
    Calls Tryz.prog 123 #[.agg (lvA h), .agg (lvA r)] w fun e w' => e = .returned (.agg (lvA (mulL h r))) ∧ Below w.heap.size w w' := by
  have R0 := Lib.hid (rwL3 w (lvA h) (lvA r) #[.int .u64 0, .int .u64 0, .int .u64 0, .int .u64 0, .int .u64 0] #[.int .u64 0, .int .u64 0, .int .u64 0, .int .u64 0, .int .u64 0])
  have BX := Lib.hid (getL_28 hh)
  have BY := Lib.hid (getL_26 hr)
  have HEND := Lib.hid (outP_end h r)
  have HMR := Lib.hid (mulL_row h r)
  have HC := Lib.hid (fun w => carry_any (mulD h r) (fun j => by
    obtain ⟨m0, m1, m2, m3, m4⟩ := mulD_lt hh hr
    unfold getL
    split <;> omega) w)
  obtain ⟨c0, c1, c2, c3, c4⟩ := carL_lt (mulD h r) (mulD_lt hh hr).1 (mulD_lt hh hr).2.1 (mulD_lt hh hr).2.2.1 (mulD_lt hh hr).2.2.2.1 (mulD_lt hh hr).2.2.2.2
  have HLR := Lib.hid (show lvA (mulL h r) = rowF (getL (mulL h r)) from rfl)
  have HLX := Lib.hid (show lvA h = rowF (getL h) from rfl)
  have HLY := Lib.hid (show lvA r = rowF (getL r) from rfl)
  have HCA := Lib.hid (show getL (carL (mulD h r)) 0 = (carL (mulD h r)).a ∧ getL (carL (mulD h r)) 1 = (carL (mulD h r)).b from ⟨rfl, rfl⟩)
  rw [HLR.out, HLX.out, HLY.out]
  rw [HLX.out, HLY.out] at R0
  obtain ⟨X, hX⟩ : ∃ X, getL h = X := ⟨_, rfl⟩
  obtain ⟨Y, hY⟩ : ∃ Y, getL r = Y := ⟨_, rfl⟩
  obtain ⟨D, hD⟩ : ∃ D, mulD h r = D := ⟨_, rfl⟩
  obtain ⟨rl, hrl⟩ : ∃ rl, rowF (getL (mulL h r)) = rl := ⟨_, rfl⟩
  rw [hX] at R0 BX HEND ⊢
  rw [hY] at R0 BY HEND ⊢
  rw [hrl] at HMR ⊢
  rw [hD] at HEND HMR HC HCA c0 c1
  rw [hD] at c2 c3 c4
  have IR := Lib.hid (show (Tryz.prog.info? 142).map (·.size) = some rl.size from by rw [← hrl]; exact pinfoL _)
  have OR := Lib.hid (show rl.all (·.oneCell') = true from by rw [← hrl]; exact one_rowF _)
  have LR := Lib.hid (show (#[.int .u64 0, .int .u64 0, .int .u64 0, .int .u64 0, .int .u64 0] : Array Value).size = rl.size from by rw [← hrl]; rfl)
  have IX := Lib.hid (pinfoL X)
  have IY := Lib.hid (pinfoL Y)
  clear HLR HLX HLY hX hY hD hrl hh hr
  go_enter Tryz.func123, Tryz.ntmps123
  go_upto_region 2 with fail
  generalize (((w.alloc (.cells (rowF X) 142 (0, 0))).alloc (.cells (rowF Y) 142 (0, 0))).alloc (.cells #[.int .u64 0, .int .u64 0, .int .u64 0, .int .u64 0, .int .u64 0] 142 (0, 0))).alloc (.cells #[.int .u64 0, .int .u64 0, .int .u64 0, .int .u64 0, .int .u64 0] 142 (0, 0)) = w3 at R0 ⊢
  generalize hA : w.heap.size = ga at *
  generalize hB : ga + 1 = gb at *
  generalize hG : gb + 1 = gc at *
  generalize hE : gc + 1 = gd at *
  have HA := Lib.hid hA
  clear hA hB hG hE
  have R3 := Lib.hid (show Rw w [(ga, rowF X, 142), (gb, rowF Y, 142), (gc, rowF (fun _ => 0), 142), (gd, rowF (outP X Y 0), 142)] w3 from R0.out)
  have RA := Lib.hid (R3.out.row 0)
  clear R0
  go_wp2_with (with_reducible refine wpList_load_row rfl 142 (.tmp 2) rfl ga rfl 142 (rowF X) (0, 0) _ RA.out Tryz.underlying142 rfl IX.out ?_)
  clear RA
  go_loopw [12] (fun c wr => ∃ i : Nat, i ≤ 5 ∧ c = .int .i64 i ∧ Rw w [(ga, rowF X, 142), (gb, rowF Y, 142), (gc, rowF (fun _ => 0), 142), (gd, rowF (outP X Y i), 142)] wr) (fun c _ => 5 - (intOf c).toNat)
  case atStart => exact ⟨0, by omega, rfl, R3.out⟩
  case round =>
    obtain ⟨i, hi, rfl, hr⟩ := hrel
    have R4 := Lib.hid hr
    have RB := Lib.hid (hr.row 1)
    clear hr R3
    by_cases hlt : i < 5
    · have i1 : (i : Int) < 5 := by omega
      have i0 : (0 : Int) ≤ i := by omega
      have hix := fun w => run_index_rowL 142 Tryz.underlying142 X i hlt w
      have HI := Lib.hid hlt
      clear hlt hi c0 c1 c2 c3 c4
      go_wp2_with (with_reducible refine wpList_load_row rfl 142 (.tmp 3) rfl gb rfl 142 (rowF Y) (0, 0) _ RB.out Tryz.underlying142 rfl IY.out ?_)
      clear hix RB
      obtain ⟨wo, rfl⟩ : ∃ wo : World, wo = wr := ⟨_, rfl⟩
      go_loopw [17] (fun c wr => ∃ j : Nat, j ≤ 5 ∧ c = .int .i64 j ∧ Rw w [(ga, rowF X, 142), (gb, rowF Y, 142), (gc, rowF (fun _ => 0), 142), (gd, rowF (innP X Y (outP X Y i) i j), 142)] wr) (fun c _ => 5 - (intOf c).toNat)
      case atStart => exact ⟨0, by omega, rfl, R4.out⟩
      case round =>
        obtain ⟨j, hj, rfl, hr⟩ := hrel
        have R5 := Lib.hid hr
        clear hr R4
        by_cases hlt : j < 5
        · have j1 : (j : Int) < 5 := by omega
          have j0 : (0 : Int) ≤ j := by omega
          have hiy := fun w => run_index_rowL 142 Tryz.underlying142 Y j hlt w
          have hk5 := ixP_lt HI.out hlt
          have cl := R5.out.cell 3 (ixP i j) (rowF_get _ _ hk5)
          have fl := R5.out.free 3 (ixP i j)
          have hg := innP_lt BX.out BY.out HI.out (Nat.le_of_lt hlt) (ixP i j)
          have ht := tmP_le BX.out BY.out i j
          have HJ := Lib.hid hlt
          have hput := R5.out.put 3 (ixP i j) (.int .u64 ((innP X Y (outP X Y i) i j (ixP i j) + tmP X Y i j : Nat) : Int))
          rw [rowF_set _ _ _ hk5, show upd (innP X Y (outP X Y i) i j) (ixP i j) (innP X Y (outP X Y i) i j (ixP i j) + tmP X Y i j) = innP X Y (outP X Y i) i (j + 1) from rfl] at hput
          simp only [List.set_cons_zero, List.set_cons_succ] at hput
          have bx := BX.out i
          have bby := BY.out j
          obtain ⟨k, hk⟩ : ∃ k, ixP i j = k := ⟨_, rfl⟩
          rw [hk] at cl fl hg hput
          obtain ⟨f, hf⟩ : ∃ f, innP X Y (outP X Y i) i j k = f := ⟨_, rfl⟩
          rw [hf] at cl hg hput
          obtain ⟨y', hy'⟩ : ∃ y', (if i + j ≥ 5 then Y j * 5 else Y j) = y' := ⟨_, rfl⟩
          have hp : tmP X Y i j = X i * y' := by rw [tmP, hy']
          obtain ⟨P, hP⟩ : ∃ P, X i * y' = P := ⟨_, rfl⟩
          rw [hp, hP] at hput ht
          have qp : (X i : Int) * (y' : Int) = (P : Int) := by rw [← hP]; exact (Int.natCast_mul _ _).symm
          obtain ⟨S, hS⟩ : ∃ S, f + P = S := ⟨_, rfl⟩
          rw [hS] at hput
          have qs : (f : Int) + (P : Int) = (S : Int) := by omega
          have PUT := Lib.hid hput
          have ht' : P ≤ 90071992547409920 := ht
          have bS : (S : Int) ≤ 2341871806232657920 := by omega
          have bP : (P : Int) ≤ 90071992547409920 := by omega
          have P0 : (0 : Int) ≤ (P : Int) := by omega
          have f0 : (0 : Int) ≤ (f : Int) := by omega
          have by' : (y' : Int) < 335544320 := by rw [← hy']; split <;> omega
          have by0 : (0 : Int) ≤ (y' : Int) := by omega
          have bxi : (X i : Int) < 268435456 := by omega
          have bx0 : (0 : Int) ≤ (X i : Int) := by omega
          have kn : (k : Int) < 5 := by rw [← hk]; omega
          have k0 : (0 : Int) ≤ k := by omega
          clear hP hS hp ht ht' hf hg hput hk5
          by_cases h5 : i + j ≥ 5
          case' pos =>
            have q5 : (i : Int) + (j : Int) ≥ 5 := by omega
            have qk : (i : Int) + (j : Int) - 5 = (k : Int) := by rw [← hk, ixP, if_pos h5]; omega
            have qy : (Y j : Int) * 5 = (y' : Int) := by rw [← hy', if_pos h5]; omega
            have qb : (Y j : Int) < 67108864 := by omega
            have qb0 : (0 : Int) ≤ (Y j : Int) := by omega
          case' neg =>
            have q5 : ¬ ((i : Int) + (j : Int) ≥ 5) := by omega
            have qk : (i : Int) + (j : Int) = (k : Int) := by rw [← hk, ixP, if_neg h5]; omega
            have qy : Y j = y' := by rw [← hy', if_neg h5]
            have qb : True := trivial
            have qb0 : True := trivial
            rw [qy] at hiy
          all_goals
            have hk9 := Lib.hid hk
            generalize X i = xi at *
            clear hk hy' h5 hj hlt bx bby R5
            have HID := Lib.hid (And.intro bS (And.intro bP (And.intro P0 (And.intro f0 (And.intro qs (And.intro qp (And.intro by' (And.intro by0 (And.intro bxi bx0)))))))))
            clear bS bP P0 f0 qs qp by' by0 bxi bx0
            go_upto_region 12 with fail
            obtain ⟨bS, bP, P0, f0, qs, qp, by', by0, bxi, bx0⟩ := HID.out
            clear hiy qk qy q5 HID
            go_wp2_with fail
            go_roundw
            case rel => exact ⟨j + 1, by have := HJ.out; omega, by go_num, PUT.out⟩
            case measure => simp [intOf]; have := HJ.out; omega
        · have j1 : ¬ ((j : Int) < 5) := by omega
          have hj5 : j = 5 := by omega
          have r6 := R5.out
          rw [hj5] at r6
          have R6 := Lib.hid (show Rw w [(ga, rowF X, 142), (gb, rowF Y, 142), (gc, rowF (fun _ => 0), 142), (gd, rowF (outP X Y (i + 1)), 142)] wr from r6)
          clear r6 hj5 hlt hj R5
          go_wp2_with fail
          go_roundw
          case rel => exact ⟨i + 1, by have := HI.out; omega, by go_num, R6.out⟩
          case measure => simp [intOf]; have := HI.out; omega
    · have i1 : ¬ ((i : Int) < 5) := by omega
      have hi5 : i = 5 := by omega
      have r5 := R4.out
      rw [hi5, HEND.out] at r5
      have R5 := Lib.hid r5
      have RD := Lib.hid (r5.row 3)
      have ID := Lib.hid (pinfoL (getL D))
      have HCD := Lib.hid (show ∀ w, Calls Tryz.prog 137 #[.agg (rowF (getL D))] w fun e w' => e = .returned (.agg (rowF (getL (carL D)))) ∧ Below w.heap.size w w' from HC.out)
      obtain ⟨h0, h1⟩ := HCA.out
      have IC := Lib.hid (pinfoL (getL (carL D)))
      have OC := Lib.hid (one_rowF (getL (carL D)))
      have LC := Lib.hid (show (rowF (getL D)).size = (rowF (getL (carL D))).size from rfl)
      rw [← h0, ← h1] at HMR
      rw [← h0] at c0
      rw [← h1] at c1
      generalize getL (carL D) = C at *
      generalize rowF (getL D) = rd at *
      clear hi5 hlt hi RB BX BY R4 r5 HC HEND HCA h0 h1 c2 c3 c4
      have HMR2 := HMR.out
      have hs : ∃ s, C 1 + C 0 / 67108864 = s := ⟨_, rfl⟩
      obtain ⟨s, hs⟩ := hs
      obtain ⟨q, hq⟩ : ∃ q, C 0 / 67108864 = q := ⟨_, rfl⟩
      obtain ⟨m, hm⟩ : ∃ m, C 0 % 67108864 = m := ⟨_, rfl⟩
      have qq : (C 0 : Int) / 67108864 = (q : Int) := by omega
      have qs : (C 1 : Int) + (q : Int) = (s : Int) := by omega
      have ha := and26 (C 0) (by omega)
      rw [hs, hm] at HMR2
      rw [hm] at ha
      have HM3 := Lib.hid HMR2
      have bs : (s : Int) < 137505000000 := by omega
      have bq : (q : Int) ≤ 2048 := by omega
      have bq0 : (0 : Int) ≤ (q : Int) := by omega
      have e1 := Lib.hid (show upd C 1 s 0 = C 0 from rfl)
      clear HMR HMR2 hs hq hm
      go_wp2_with (with_reducible refine wpList_load_row rfl 142 (.tmp 5) rfl gd rfl 142 rd (0, 0) _ RD.out Tryz.underlying142 rfl ID.out ?_)
      refine (HCD.out _).mono ?_
      rintro e w5 ⟨rfl, hb5⟩
      have R6 := Lib.hid (R5.out.on hb5)
      have RE := Lib.hid (R6.out.row 3)
      have R7 := R6.out.store 3 (rowF C)
      simp only [List.set_cons_zero, List.set_cons_succ] at R7
      have R8 := Lib.hid R7
      clear hb5 R7 RD R5 R6
      go_upto_region 16 with (with_reducible refine wpList_store_row rfl 142 (.tmp 5) (.tmp 41) rfl gd (rowF C) rfl rfl 142 rd RE.out IC.out LC.out OC.out ?_)
      generalize World.setRow _ _ (rowF C) = w7 at R8 ⊢
      clear RE IC LC OC ID HCD
      have k1 := R8.out.cell 3 1 (rowF_get _ 1 (by decide))
      have k0 := R8.out.cell 3 0 (rowF_get _ 0 (by decide))
      have f1 := R8.out.free 3 1
      have p1 := R8.out.put 3 1 (.int .u64 (s : Int))
      rw [rowF_set _ _ _ (by decide)] at p1
      simp only [List.set_cons_zero, List.set_cons_succ] at p1
      have k2 := p1.cell 3 0 (rowF_get _ 0 (by decide))
      rw [e1.out] at k2
      have f2 := p1.free 3 0
      have p2 := p1.put 3 0 (.int .u64 (m : Int))
      rw [rowF_set _ _ _ (by decide), HM3.out] at p2
      simp only [List.set_cons_zero, List.set_cons_succ] at p2
      have P2 := Lib.hid p2
      clear p1 p2 R8 HM3 e1
      generalize C 1 = x1 at *
      generalize C 0 = x0 at *
      go_upto_region 18 with fail
      generalize World.setCell _ ⟨gd, 0, none⟩ _ = w9 at P2 ⊢
      have RWA := Lib.hid (P2.out.row 3)
      have RWB := Lib.hid (P2.out.row 2)
      clear k0 k1 k2 f1 f2 ha qq qs c0 c1 bs bq bq0
      have LR2 := Lib.hid (show (rowF (fun _ => 0)).size = rl.size from LR.out)
      go_wp2_with (first
        | (with_reducible refine wpList_load_row rfl 142 (.tmp 5) rfl gd rfl 142 rl (0, 0) _ RWA.out Tryz.underlying142 rfl IR.out ?_)
        | (with_reducible refine wpList_store_row rfl 142 (.tmp 4) (.tmp 53) rfl gc rl rfl rfl 142 (rowF (fun _ => 0)) RWB.out IR.out LR2.out OR.out ?_))
      have R9 := P2.out.store 2 rl
      exact bodyPost_ret (results_cell_row rfl _ _ gc 142 rl (0, 0) _ rfl (R9.row 2) Tryz.underlying142 rfl IR.out) rfl ⟨rfl, HA.out ▸ R9.bel⟩
end Go.Proofs.YtfckjilhkdlpfaaGreatDoor

namespace Go.Proofs.YtfckjilhkdlpfaaGreatDoor
open Go.RowKit MS
theorem in27_62 {x : L5} (h : x.in27) (j : Nat) : getL x j < 4611686018427387904 := by
  obtain ⟨h0, h1, h2, h3, h4⟩ := h
  unfold getL
  split <;> omega
theorem in27_car {x : L5} (h : x.in27) (j : Nat) : getL (carL x) j < 4611686018427387904 := by
  obtain ⟨h0, h1, h2, h3, h4⟩ := h
  obtain ⟨c0, c1, c2, c3, c4⟩ := carL_lt x (by omega) (by omega) (by omega) (by omega) (by omega)
  unfold getL
  split <;> omega
theorem plus_lt {Z : Nat → Nat} (h : ∀ j, Z j < 67108864) (j : Nat) : upd Z 0 (Z 0 + 5) j < 4611686018427387904 := by
  have h0 := h 0
  have h1 := h j
  unfold upd
  split <;> omega

set_option maxRecDepth 1000000 in
set_option maxHeartbeats 2000000 in
theorem polyleast_any (x : L5) (hx : x.in27) (w : World) :
    Calls Tryz.prog 125 #[.agg (lvA x)] w fun e w' => e = .returned (.agg (lvA (leastL x))) ∧ Below w.heap.size w w' := by
  have R0 := Lib.hid (rwL2 w (lvA x) #[.int .u64 0, .int .u64 0, .int .u64 0, .int .u64 0, .int .u64 0])
  have C1 := Lib.hid (fun w => carry_any x (in27_62 hx) w)
  have C2 := Lib.hid (fun w => carry_any (carL x) (in27_car hx) w)
  obtain ⟨pr, po⟩ := plus5_row (twice5 x)
  have BZ := getL_26 (twice5_in hx)
  have HLS := Lib.hid (show leastL x = if 0 < (plus5 (twice5 x)).1 then (plus5 (twice5 x)).2 else twice5 x from rfl)
  have HZ0 := Lib.hid (show (twice5 x).a = getL (twice5 x) 0 from rfl)
  rw [HZ0.out] at pr po
  have HL2 := Lib.hid (show lvA (carL (carL x)) = rowF (getL (twice5 x)) from rfl)
  rw [HL2.out] at C2
  have HRN := Lib.hid (show 0 < (plus5 (twice5 x)).1 → lvA (leastL x) = rowF (getL (plus5 (twice5 x)).2) from fun h => by rw [HLS.out, if_pos h]; rfl)
  have HRZ := Lib.hid (show ¬ 0 < (plus5 (twice5 x)).1 → lvA (leastL x) = rowF (getL (twice5 x)) from fun h => by rw [HLS.out, if_neg h]; rfl)
  rw [← pr, ← po] at HRN
  rw [← po] at HRZ
  obtain ⟨Z, hZ⟩ : ∃ Z, getL (twice5 x) = Z := ⟨_, rfl⟩
  rw [hZ] at HRN HRZ C2 BZ
  obtain ⟨res, hres⟩ : ∃ r, lvA (leastL x) = r := ⟨_, rfl⟩
  rw [hres] at HRN HRZ ⊢
  obtain ⟨rx, hrx⟩ : ∃ r, lvA x = r := ⟨_, rfl⟩
  have SX := Lib.hid (show rx.size = 5 from by rw [← hrx]; rfl)
  have IX := Lib.hid (show (Tryz.prog.info? 142).map (·.size) = some rx.size from by rw [← hrx]; exact pinfoL _)
  rw [hrx] at R0 C1 ⊢
  obtain ⟨ry, hry⟩ : ∃ r, lvA (carL x) = r := ⟨_, rfl⟩
  rw [hry] at C1 C2
  have BL := Lib.hid (plus_lt BZ)
  have BZ0 := Lib.hid (BZ 0)
  obtain ⟨L, hL⟩ : ∃ L, upd Z 0 (Z 0 + 5) = L := ⟨_, rfl⟩
  rw [hL] at HRN HRZ BL
  have HLL := Lib.hid hL
  have BC := Lib.hid (cvN_le L BL.out)
  have IZ := Lib.hid (pinfoL Z)
  have OZ := Lib.hid (one_rowF Z)
  have LZ := Lib.hid (show rx.size = (rowF Z).size from SX.out)
  have LZ0 := Lib.hid (show (#[.int .u64 0, .int .u64 0, .int .u64 0, .int .u64 0, .int .u64 0] : Array Value).size = (rowF Z).size from rfl)
  clear hx pr po BZ HLS HZ0 HL2 hZ hres hrx hry hL
  go_enter Tryz.func125, Tryz.ntmps125
  go_upto_region 1 with fail
  generalize (w.alloc (.cells rx 142 (0, 0))).alloc (.cells #[.int .u64 0, .int .u64 0, .int .u64 0, .int .u64 0, .int .u64 0] 142 (0, 0)) = W at R0 ⊢
  generalize hA : w.heap.size = ga at *
  generalize hB : ga + 1 = gb at *
  have HA := Lib.hid hA
  clear hA hB
  have RW0 := Lib.hid (R0.out.row 0)
  go_wp2_with (with_reducible refine wpList_load_row rfl 142 (.tmp 1) rfl ga rfl 142 rx (0, 0) _ RW0.out Tryz.underlying142 rfl IX.out ?_)
  refine (C1.out _).mono ?_
  rintro e w1 ⟨rfl, hb1⟩
  have R1 := Lib.hid (R0.out.on hb1)
  clear hb1 R0 RW0 C1
  go_wp2_with fail
  refine (C2.out _).mono ?_
  rintro e w2 ⟨rfl, hb2⟩
  have R2 := Lib.hid (R1.out.on hb2)
  have RW2 := Lib.hid (R2.out.row 0)
  have r3 := R2.out.store 0 (rowF Z)
  simp only [List.set_cons_zero] at r3
  have R3 := Lib.hid r3
  clear hb2 R1 C2 r3
  go_upto_region 2 with (with_reducible refine wpList_store_row rfl 142 (.tmp 1) (.tmp 8) rfl ga (rowF Z) rfl rfl 142 rx RW2.out IZ.out LZ.out OZ.out ?_)
  generalize World.setRow _ _ (rowF Z) = w3 at R3 ⊢
  clear RW2 R2 LZ
  have RW3 := Lib.hid (R3.out.row 0)
  have r4 := R3.out.alloc #[.int .u64 0, .int .u64 0, .int .u64 0, .int .u64 0, .int .u64 0] 142
  simp only [List.cons_append, List.nil_append] at r4
  have RW4 := Lib.hid (r4.row 2)
  have r5 := r4.store 2 (rowF Z)
  simp only [List.set_cons_zero, List.set_cons_succ] at r5
  have R5 := Lib.hid r5
  clear r4 r5
  go_upto_region 3 with (first
    | (with_reducible refine wpList_load_row rfl 142 (.tmp 1) rfl ga rfl 142 (rowF Z) (0, 0) _ RW3.out Tryz.underlying142 rfl IZ.out ?_)
    | (with_reducible refine wpList_store_row rfl 142 (.tmp 3) (.tmp 9) rfl w3.heap.size (rowF Z) rfl rfl 142 #[.int .u64 0, .int .u64 0, .int .u64 0, .int .u64 0, .int .u64 0] RW4.out IZ.out LZ0.out OZ.out ?_))
  generalize World.setRow _ _ (rowF Z) = w5 at R5 ⊢
  generalize w3.heap.size = gc at R5 ⊢
  clear RW3 RW4 R3 LZ0
  have k0 := R5.out.cell 2 0 (rowF_get _ 0 (by decide))
  have f0 := R5.out.free 2 0
  have p0 := R5.out.put 2 0 (.int .u64 ((Z 0 + 5 : Nat) : Int))
  rw [rowF_set _ _ _ (by decide), HLL.out, ← prog_zero L (cvG L)] at p0
  simp only [List.set_cons_zero, List.set_cons_succ] at p0
  have z0 : (Z 0 : Int) < 67108864 := by have := BZ0.out; omega
  have q0 : ((Z 0 + 5 : Nat) : Int) = (Z 0 : Int) + 5 := by omega
  rw [q0] at p0
  have P0 := Lib.hid p0
  obtain ⟨z, hz⟩ : ∃ z, Z 0 = z := ⟨_, rfl⟩
  rw [hz] at k0 P0 z0
  clear p0 q0 hz R5
  go_upto_region 4 with fail
  generalize World.setCell _ _ _ = w6 at P0 ⊢
  clear k0 f0 z0
  go_wp2_with fail
  go_loopw [4, 14] (fun o i wr => ∃ j : Nat, j ≤ 5 ∧ i = .int .i64 j ∧ o = .int .u64 (cvN L j : Nat) ∧ Rw w [(ga, rowF Z, 142), (gb, #[.int .u64 0, .int .u64 0, .int .u64 0, .int .u64 0, .int .u64 0], 142), (gc, rowF (prog L (cvG L) j), 142)] wr) (fun _ i _ => 5 - (intOf i).toNat)
  case atStart => exact ⟨0, by omega, rfl, rfl, P0.out⟩
  case round =>
    obtain ⟨j, hj, rfl, rfl, hr⟩ := hrel
    have R4 := Lib.hid hr
    clear hr P0
    by_cases hlt : j < 5
    · have j1 : (j : Int) < 5 := by omega
      have j0 : (0 : Int) ≤ j := by omega
      have cj := R4.out.cell 2 j (rowF_get _ j hlt)
      have fj := R4.out.free 2 j
      rw [prog_at] at cj
      have bj := BL.out j
      have lo := BC.out j
      have put := R4.out.put 2 j (.int .u64 ((L j + cvN L j : Nat) : Int))
      rw [rowF_set _ _ _ hlt] at put
      simp only [List.set_cons_zero, List.set_cons_succ] at put
      have ck := put.cell 2 j (rowF_get _ j hlt)
      have fk := put.free 2 j
      rw [show upd (prog L (cvG L) j) j (L j + cvN L j) j = L j + cvN L j from if_pos rfl] at ck
      have put2 := put.put 2 j (.int .u64 ((cvG L j : Nat) : Int))
      simp only [List.set_cons_zero, List.set_cons_succ] at put2
      rw [rowF_set _ _ _ hlt, upd_upd, prog_set] at put2
      have PUT := Lib.hid put2
      obtain ⟨S, hS⟩ : ∃ S, L j + cvN L j = S := ⟨_, rfl⟩
      have qs : (L j : Int) + (cvN L j : Int) = (S : Int) := by omega
      have hs : (S : Int) / 67108864 = ((cvN L (j + 1) : Nat) : Int) := by rw [show cvN L (j + 1) = (L j + cvN L j) / 67108864 from rfl]; omega
      have ha : bits .and .u64 (S : Int) 67108863 = ((cvG L j : Nat) : Int) := by
        rw [← hS, and26 (L j + cvN L j) (by omega)]
        rfl
      have bS : (S : Int) < 4611686155866341376 := by omega
      rw [hS] at ck fk PUT put
      have HLT := Lib.hid hlt
      generalize L j = xj at cj bj qs
      generalize cvN L j = oj at lo qs ⊢
      generalize cvG L j = gj at PUT ha
      generalize ho : cvN L (j + 1) = oj1 at hs
      have HO := Lib.hid ho
      have o0 : (0 : Int) ≤ (oj : Int) := by omega
      have x0 : (0 : Int) ≤ (xj : Int) := by omega
      clear hlt hj ho put put2 hS bj lo
      go_upto_region 9 with fail
      generalize wr.setCell ⟨gc, j, none⟩ (.int .u64 (S : Int)) = w6 at ck fk PUT ⊢
      clear cj fj qs
      go_wp2_with fail
      go_roundw
      case rel => exact ⟨j + 1, HLT.out, by go_num, by rw [HO.out], PUT.out⟩
      case measure => simp [intOf]; omega
    · have j1 : ¬ ((j : Int) < 5) := by omega
      have hj5 : j = 5 := by omega
      have r5 := R4.out
      rw [hj5, prog_end] at r5
      rw [hj5]
      have R5 := Lib.hid r5
      have IN := Lib.hid (pinfoL (cvG L))
      have ON := Lib.hid (one_rowF (cvG L))
      have LN := Lib.hid (show (#[.int .u64 0, .int .u64 0, .int .u64 0, .int .u64 0, .int .u64 0] : Array Value).size = (rowF (cvG L)).size from rfl)
      have LZ := Lib.hid (show (#[.int .u64 0, .int .u64 0, .int .u64 0, .int .u64 0, .int .u64 0] : Array Value).size = (rowF Z).size from rfl)
      have RWA := Lib.hid (r5.row 2)
      have RWB := Lib.hid (r5.row 0)
      have RWC := Lib.hid (r5.row 1)
      generalize rowF (cvG L) = rn at *
      generalize rowF Z = rz at *
      generalize cvN L 5 = o at *
      clear r5 hj5 hlt hj R4 BC BL
      by_cases h0 : 0 < o
      · have t1 : (o : Int) > 0 := by omega
        have hr := HRN.out h0
        clear h0 HRN HRZ
        subst hr
        go_wp2_with (first
          | (with_reducible refine wpList_load_row rfl 142 (.tmp 3) rfl gc rfl 142 res (0, 0) _ RWA.out Tryz.underlying142 rfl IN.out ?_)
          | (with_reducible refine wpList_store_row rfl 142 (.tmp 2) (.tmp 35) rfl gb res rfl rfl 142 #[.int .u64 0, .int .u64 0, .int .u64 0, .int .u64 0, .int .u64 0] RWC.out IN.out LN.out ON.out ?_))
        have R6 := R5.out.store 1 res
        exact bodyPost_ret (results_cell_row rfl _ _ gb 142 res (0, 0) _ rfl (R6.row 1) Tryz.underlying142 rfl IN.out) rfl ⟨rfl, HA.out ▸ R6.bel⟩
      · have t1 : ¬ (o : Int) > 0 := by omega
        have hr := HRZ.out h0
        clear h0 HRN HRZ
        subst hr
        go_wp2_with (first
          | (with_reducible refine wpList_load_row rfl 142 (.tmp 1) rfl ga rfl 142 res (0, 0) _ RWB.out Tryz.underlying142 rfl IZ.out ?_)
          | (with_reducible refine wpList_store_row rfl 142 (.tmp 2) (.tmp 36) rfl gb res rfl rfl 142 #[.int .u64 0, .int .u64 0, .int .u64 0, .int .u64 0, .int .u64 0] RWC.out IZ.out LZ.out OZ.out ?_))
        have R6 := R5.out.store 1 res
        exact bodyPost_ret (results_cell_row rfl _ _ gb 142 res (0, 0) _ rfl (R6.row 1) Tryz.underlying142 rfl IZ.out) rfl ⟨rfl, HA.out ▸ R6.bel⟩
end Go.Proofs.YtfckjilhkdlpfaaGreatDoor

namespace Go.Proofs.YtfckjilhkdlpfaaGreatDoor
open Go.RowKit MS
set_option maxRecDepth 100000 in
theorem pad_full (s : ByteArray) (w : World) (hs : s.size = 16) :
    Calls Tryz.prog 122 #[.string s] w fun e w' => e = .returned (.string s) ∧ Below w.heap.size w w' := by
  have t1 : ((s.size : Int) == 16) = true := by simp; omega
  clear hs
  go_enter Tryz.func122, Tryz.ntmps122
  go_wp2_with fail
  go_ret
  exact ⟨rfl, Below.refl _ _⟩
def padP (s : ByteArray) : ByteArray := bs (ls s ++ 1 :: List.replicate (15 - s.size) 0)
theorem size_padP (s : ByteArray) (h : s.size ≤ 15) : (padP s).size = 16 := by
  rw [padP, size_bs, List.length_append, List.length_cons, List.length_replicate, length_ls]; omega
theorem leb_padP (s : ByteArray) : leb (ls (padP s)) = leb (ls s) + 256 ^ s.size := by
  rw [padP, ls_bs, leb_app, leb, leb_zeros, length_ls]
  show leb (ls s) + 256 ^ s.size * 1 = _
  rw [Nat.mul_one]

set_option maxRecDepth 100000 in
set_option maxHeartbeats 1000000 in
theorem pad_part (s : ByteArray) (w : World) (hs : s.size ≤ 15) :
    Calls Tryz.prog 122 #[.string s] w fun e w' => e = .returned (.string (padP s)) ∧ Below w.heap.size w w' := by
  have t1 : ((s.size : Int) == 16) = false := by simp; omega
  have s1 : (s.size : Int) < 16 := by omega
  have s0 : (0 : Int) ≤ (s.size : Int) := by omega
  have HS := Lib.hid hs
  have HL := Lib.hid (length_ls s)
  have B0 := Lib.hid (Bt.made (T := 156) (Below.refl w.heap.size w) (List.replicate 16 0))
  have HR := Lib.hid (show padP s = bs (ls s ++ 1 :: List.replicate (15 - s.size) 0) from rfl)
  generalize padP s = R at HR ⊢
  clear hs
  go_enter Tryz.func122, Tryz.ntmps122
  go_upto_region 4 with fail
  rw [zeros16]
  generalize w.alloc (.cells (vls (List.replicate 16 0)).toArray 156 (0, 0)) = w1 at B0 ⊢
  generalize hA : w.heap.size = ga at B0 ⊢
  have HA := Lib.hid hA
  clear hA
  go_wp2_with (with_reducible refine wpList_copy_bt rfl (.tmp 8) (.tmp 9) rfl 156 ga 16 16 s rfl rfl w B0.out ?hle ?_)
  case hle => have := HS.out; omega
  intro w2 b2
  have cu := b2.cell s.size (by have := HS.out; have := HL.out; simp; omega)
  have fu := b2.free s.size
  have b3 := b2.put s.size 1
  have e1 : (ls s ++ List.replicate (16 - (ls s).length) 0).set s.size 1 = ls s ++ 1 :: List.replicate (15 - s.size) 0 := by
    have hl := HL.out
    have h15 := HS.out
    rw [List.set_append_right _ _ (by omega), hl, Nat.sub_self, show 16 - s.size = (15 - s.size) + 1 by omega, List.replicate_succ, List.set_cons_zero]
  rw [e1] at b3
  have B3 := Lib.hid (show Bt 156 ga w (ls s ++ 1 :: List.replicate (15 - s.size) 0) (w2.setCell ⟨ga, s.size, none⟩ (.int .u8 1)) from b3)
  have hcv := b3.conv 16 16 (by have := HS.out; have := HL.out; simp; omega)
  have hcv2 : (convert 83 9 (.slice (some ⟨ga, 0, none⟩) 16 16)).run Tryz.prog (w2.setCell ⟨ga, s.size, none⟩ (.int .u8 1)) = .ok (.string R) (w2.setCell ⟨ga, s.size, none⟩ (.int .u8 1)) := by rw [HR.out]; exact hcv
  clear b2 b3 e1 hcv B0 HR
  go_wp2_with fail
  go_ret
  exact ⟨rfl, HA.out ▸ B3.out.bel⟩
end Go.Proofs.YtfckjilhkdlpfaaGreatDoor

namespace Go.Proofs.YtfckjilhkdlpfaaGreatDoor
open Go.RowKit MS
def renP : Go.Shelf.Ren := ⟨fun n => if n = 25 then 105 else n, fun n => if n = 22 then 92 else n, fun n => n⟩
theorem laysP : Lays7.n25 Tryz.prog renP := { mixed := by kernel_rfl, f25 := by kernel_rfl, t22 := by kernel_rfl, a22 := fun _ => by kernel_rfl, z22 := fun _ => by kernel_rfl, v22 := fun _ => by kernel_rfl, i22 := by kernel_rfl }
theorem add64P (x y c l h : Nat) (hc : c ≤ 1) (hl : l = (x + y + c) % 18446744073709551616) (hh : h = (x + y + c) / 18446744073709551616) (w : World) : (callFunc 105 #[.int .u64 x, .int .u64 y, .int .u64 c]).run Tryz.prog w = .ok (.value (.tuple #[.int .u64 ((l : Nat) : Int), .int .u64 ((h : Nat) : Int)])) w := by
  subst hl hh
  exact Any7.bits_Add64 laysP x y c hc w

/-- The words of a number of five limbs, and of the half. -/
theorem low_word {x : L5} (h : x.in26) : (x.a ||| x.b * 67108864) ||| x.c % 4096 * 4503599627370496 = x.v % 18446744073709551616 ∧ x.a ||| x.b * 67108864 < 4503599627370496 := by
  obtain ⟨h0, h1, h2, h3, h4⟩ := h
  have e1 := or_mulP x.a x.b 26 (by omega)
  rw [show (2 : Nat) ^ 26 = 67108864 by decide] at e1
  have e2 := or_mulP (x.b * 67108864 + x.a) (x.c % 4096) 52 (by omega)
  rw [show (2 : Nat) ^ 52 = 4503599627370496 by decide] at e2
  rw [e1, e2]
  unfold L5.v
  omega
theorem high_word {x : L5} (h : x.in26) : (x.c / 4096 ||| x.d * 16384) ||| x.e % 16777216 * 1099511627776 = x.v / 18446744073709551616 % 18446744073709551616 ∧ x.c / 4096 ||| x.d * 16384 < 1099511627776 := by
  obtain ⟨h0, h1, h2, h3, h4⟩ := h
  have e1 := or_mulP (x.c / 4096) x.d 14 (by omega)
  rw [show (2 : Nat) ^ 14 = 16384 by decide] at e1
  have e2 := or_mulP (x.d * 16384 + x.c / 4096) (x.e % 16777216) 40 (by omega)
  rw [show (2 : Nat) ^ 40 = 1099511627776 by decide] at e2
  rw [e1, e2]
  unfold L5.v
  omega
theorem half_word (a b : Nat) (ha : a < 4294967296) : a ||| b * 4294967296 = a + 4294967296 * b := by
  have e1 := or_mulP a b 32 (by omega)
  rw [show (2 : Nat) ^ 32 = 4294967296 by decide] at e1
  rw [e1]; omega
theorem or64 (a b c : Nat) (ha : a < 18446744073709551616) (hb : b < 18446744073709551616) (h : a ||| b = c) : bits .or .u64 (a : Int) (b : Int) = ((c : Nat) : Int) := by
  rw [u64_or_nat a b ha hb, h]
theorem shl64 (a m c : Nat) (h : a * m % 18446744073709551616 = c) : IntKind.u64.wrap ((a : Int) * (m : Int)) = ((c : Nat) : Int) := by
  rw [IntKind.wrap_u64]
  subst h
  rw [Int.natCast_emod, Int.natCast_mul]
  rfl
theorem L_low (Y : Nat) : Y % 4294967296 + 4294967296 * (Y / 4294967296 % 4294967296) = Y % 18446744073709551616 := by omega
theorem L_high (Y : Nat) (h : Y < 340282366920938463463374607431768211456) : Y / 18446744073709551616 % 4294967296 + 4294967296 * (Y / 79228162514264337593543950336 % 4294967296) = Y / 18446744073709551616 := by omega
theorem L_sum (X Y : Nat) : (X + Y) % 18446744073709551616 = (X % 18446744073709551616 + Y % 18446744073709551616 + 0) % 18446744073709551616 := by omega
theorem L_sum2 (X Y : Nat) : (X + Y) / 18446744073709551616 % 18446744073709551616 = (X / 18446744073709551616 % 18446744073709551616 + Y / 18446744073709551616 + (X % 18446744073709551616 + Y % 18446744073709551616 + 0) / 18446744073709551616) % 18446744073709551616 := by omega
theorem L_q1 (b : Nat) (h : b < 67108864) : b * 67108864 % 18446744073709551616 = b * 67108864 := by omega
theorem L_q2 (b : Nat) (_h : b < 67108864) : b * 4503599627370496 % 18446744073709551616 = b % 4096 * 4503599627370496 := by omega
theorem L_q3 (b : Nat) (h : b < 4294967296) : b * 4294967296 % 18446744073709551616 = b * 4294967296 := by omega
theorem L_q4 (b : Nat) (h : b < 67108864) : b * 16384 % 18446744073709551616 = b * 16384 := by omega
theorem L_q5 (b : Nat) (_h : b < 67108864) : b * 1099511627776 % 18446744073709551616 = b % 16777216 * 1099511627776 := by omega
theorem L_26 (b : Nat) (h : b < 67108864) : b < 18446744073709551616 := by omega
theorem L_32 (b : Nat) (h : b < 4294967296) : b < 18446744073709551616 := by omega
theorem L_b1 (b : Nat) (h : b < 67108864) : b * 67108864 < 18446744073709551616 := by omega
theorem L_b2 (b : Nat) : b % 4096 * 4503599627370496 < 18446744073709551616 := by omega
theorem L_b3 (b : Nat) (h : b < 4294967296) : b * 4294967296 < 18446744073709551616 := by omega
theorem L_b4 (b : Nat) (h : b < 67108864) : b * 16384 < 18446744073709551616 := by omega
theorem L_b5 (b : Nat) : b % 16777216 * 1099511627776 < 18446744073709551616 := by omega
theorem L_b7 (b : Nat) (h : b < 67108864) : b / 4096 < 18446744073709551616 := by omega
theorem L_cr {a b c : Nat} (ha : a < 18446744073709551616) (hb : b < 18446744073709551616) (h : (a + b + 0) / 18446744073709551616 = c) : c ≤ 1 := by omega
/-- The bytes so far: j of the low word, j of the high one. -/
def finL (T j : Nat) : List UInt8 := (List.range 16).map fun i => if i < j ∨ 8 ≤ i ∧ i < 8 + j then UInt8.ofNat (T / 256 ^ i % 256) else 0
theorem length_finL (T j : Nat) : (finL T j).length = 16 := by simp [finL]
theorem finL_get (T j i : Nat) (h : i < 16) : (finL T j)[i]? = some (if i < j ∨ 8 ≤ i ∧ i < 8 + j then UInt8.ofNat (T / 256 ^ i % 256) else 0) := by simp [finL, h]
theorem finL_zero (T : Nat) : finL T 0 = List.replicate 16 0 := by
  apply List.ext_getElem?
  intro i
  by_cases h : i < 16
  · rw [finL_get _ _ _ h, if_neg (by omega), List.getElem?_replicate, if_pos h]
  · rw [List.getElem?_eq_none (by rw [length_finL]; omega), List.getElem?_eq_none (by simp; omega)]
theorem finL_step (T j : Nat) (h : j < 8) : ((finL T j).set j (UInt8.ofNat (T / 256 ^ j % 256))).set (8 + j) (UInt8.ofNat (T / 256 ^ (8 + j) % 256)) = finL T (j + 1) := by
  apply List.ext_getElem?
  intro i
  rw [List.getElem?_set, List.length_set, length_finL, List.getElem?_set, length_finL]
  by_cases hi : i < 16
  · rw [finL_get _ _ _ hi, finL_get _ _ _ hi]
    by_cases e1 : 8 + j = i
    · subst e1
      rw [if_pos rfl, if_pos hi, if_pos (by omega)]
    · rw [if_neg e1]
      by_cases e2 : j = i
      · subst e2
        rw [if_pos rfl, if_pos hi, if_pos (by omega)]
      · rw [if_neg e2]
        congr 1
        by_cases h3 : i < j ∨ 8 ≤ i ∧ i < 8 + j
        · rw [if_pos h3, if_pos (by omega)]
        · rw [if_neg h3, if_neg (by omega)]
  · rw [if_neg (by omega), if_neg (by omega), List.getElem?_eq_none (by rw [length_finL]; omega), List.getElem?_eq_none (by rw [length_finL]; omega)]
theorem finL_end (T : Nat) : finL T 8 = nbs 16 T := by
  apply List.ext_getElem?
  intro i
  by_cases h : i < 16
  · rw [finL_get _ _ _ h, nbs_get _ _ _ h, if_pos (by omega)]
  · rw [List.getElem?_eq_none (by rw [length_finL]; omega), List.getElem?_eq_none (by rw [length_nbs]; omega)]
theorem dig_low (T j : Nat) (h : j < 8) : T % 18446744073709551616 / 256 ^ j % 256 = T / 256 ^ j % 256 := dig_mod 256 8 T j h
theorem dig_high (T j : Nat) (h : j < 8) : T / 18446744073709551616 % 18446744073709551616 / 256 ^ j % 256 = T / 256 ^ (8 + j) % 256 := by
  rw [show T / 18446744073709551616 % 18446744073709551616 / 256 ^ j % 256 = T / 18446744073709551616 / 256 ^ j % 256 from dig_mod 256 8 _ j h, Nat.pow_add, Nat.div_div_eq_div_mul]

set_option maxRecDepth 1000000 in
set_option maxHeartbeats 4000000 in
theorem finish_poly (x : L5) (half : ByteArray) (hx : x.in26) (hh : half.size = 16) (w : World) :
    Calls Tryz.prog 124 #[.agg (lvA x), .string half] w fun e w' => e = .returned (.string (bs (nbs 16 (x.v + leb (ls half))))) ∧ Below w.heap.size w w' := by
  have W0 := Lib.hid (fun w => pword_any half 0 w (by omega) (by omega))
  have W4 := Lib.hid (fun w => pword_any half 4 w (by omega) (by omega))
  have W8 := Lib.hid (fun w => pword_any half 8 w (by omega) (by omega))
  have W12 := Lib.hid (fun w => pword_any half 12 w (by omega) (by omega))
  rw [word_part] at W0 W4 W8 W12
  have hv := leb_lt (ls half)
  rw [length_ls, hh, show (256 : Nat) ^ 16 = 340282366920938463463374607431768211456 by decide] at hv
  rw [show (256 : Nat) ^ 0 = 1 by decide, Nat.div_one, show ((0 : Nat) : Int) = 0 from rfl] at W0
  rw [show (256 : Nat) ^ 4 = 4294967296 by decide, show ((4 : Nat) : Int) = 4 from rfl] at W4
  rw [show (256 : Nat) ^ 8 = 18446744073709551616 by decide, show ((8 : Nat) : Int) = 8 from rfl] at W8
  rw [show (256 : Nat) ^ 12 = 79228162514264337593543950336 by decide, show ((12 : Nat) : Int) = 12 from rfl] at W12
  obtain ⟨lw, lb⟩ := low_word hx
  obtain ⟨hw, hb⟩ := high_word hx
  obtain ⟨h0, h1, h2, h3, h4⟩ := hx
  have HRES := Lib.hid (show lvA x = #[.int .u64 (x.a : Int), .int .u64 (x.b : Int), .int .u64 (x.c : Int), .int .u64 (x.d : Int), .int .u64 (x.e : Int)] from rfl)
  rw [HRES.out]
  generalize leb (ls half) = Y at *
  generalize x.v = X at *
  have lY : (Y % 4294967296) ||| (Y / 4294967296 % 4294967296) * 4294967296 = Y % 18446744073709551616 := by rw [half_word _ _ (Nat.mod_lt _ (by decide))]; exact L_low Y
  have hY : (Y / 18446744073709551616 % 4294967296) ||| (Y / 79228162514264337593543950336 % 4294967296) * 4294967296 = Y / 18446744073709551616 := by rw [half_word _ _ (Nat.mod_lt _ (by decide))]; exact L_high Y hv
  have y0 : Y % 4294967296 < 4294967296 := Nat.mod_lt _ (by decide)
  have y4 : Y / 4294967296 % 4294967296 < 4294967296 := Nat.mod_lt _ (by decide)
  have y8 : Y / 18446744073709551616 % 4294967296 < 4294967296 := Nat.mod_lt _ (by decide)
  have y12 : Y / 79228162514264337593543950336 % 4294967296 < 4294967296 := Nat.mod_lt _ (by decide)
  have z1 : Y % 18446744073709551616 < 18446744073709551616 := Nat.mod_lt _ (by decide)
  have z0 : X % 18446744073709551616 < 18446744073709551616 := Nat.mod_lt _ (by decide)
  have hlo := L_sum X Y
  have hhi := L_sum2 X Y
  obtain ⟨v0, ev0⟩ : ∃ n, Y % 4294967296 = n := ⟨_, rfl⟩
  obtain ⟨v4, ev4⟩ : ∃ n, Y / 4294967296 % 4294967296 = n := ⟨_, rfl⟩
  obtain ⟨v8, ev8⟩ : ∃ n, Y / 18446744073709551616 % 4294967296 = n := ⟨_, rfl⟩
  obtain ⟨v12, ev12⟩ : ∃ n, Y / 79228162514264337593543950336 % 4294967296 = n := ⟨_, rfl⟩
  obtain ⟨l0, el0⟩ : ∃ n, X % 18446744073709551616 = n := ⟨_, rfl⟩
  obtain ⟨l1, el1⟩ : ∃ n, Y % 18446744073709551616 = n := ⟨_, rfl⟩
  obtain ⟨l2, el2⟩ : ∃ n, X / 18446744073709551616 % 18446744073709551616 = n := ⟨_, rfl⟩
  obtain ⟨l3, el3⟩ : ∃ n, Y / 18446744073709551616 = n := ⟨_, rfl⟩
  obtain ⟨T, hT⟩ : ∃ T, X + Y = T := ⟨_, rfl⟩
  rw [ev0, ev4, el1] at lY
  rw [ev8, ev12, el3] at hY
  rw [ev0] at W0 y0
  rw [ev4] at W4 y4
  rw [ev8] at W8 y8
  rw [ev12] at W12 y12
  rw [el0] at lw
  rw [el2] at hw
  rw [hT, el0, el1] at hlo
  rw [hT, el2, el3, el0, el1] at hhi
  rw [el1] at z1
  rw [el0] at z0
  rw [hT]
  clear ev0 ev4 ev8 ev12 el0 el1 el2 el3 hT hv
  have q1 := shl64 x.b 67108864 _ (L_q1 _ h1)
  have q2 := shl64 x.c 4503599627370496 _ (L_q2 _ h2)
  have q3 := shl64 v4 4294967296 _ (L_q3 _ y4)
  have q4 := shl64 x.d 16384 _ (L_q4 _ h3)
  have q5 := shl64 x.e 1099511627776 _ (L_q5 _ h4)
  have q6 := shl64 v12 4294967296 _ (L_q3 _ y12)
  have o1 := or64 x.a (x.b * 67108864) _ (L_26 _ h0) (L_b1 _ h1) rfl
  have o2 := or64 (x.a ||| x.b * 67108864) (x.c % 4096 * 4503599627370496) _ (Nat.lt_trans lb (by decide)) (L_b2 _) lw
  have o3 := or64 v0 (v4 * 4294967296) _ (L_32 _ y0) (L_b3 _ y4) lY
  have o4 := or64 (x.c / 4096) (x.d * 16384) _ (L_b7 _ h2) (L_b4 _ h3) rfl
  have o5 := or64 (x.c / 4096 ||| x.d * 16384) (x.e % 16777216 * 1099511627776) _ (Nat.lt_trans hb (by decide)) (L_b5 _) hw
  have o6 := or64 v8 (v12 * 4294967296) _ (L_32 _ y8) (L_b3 _ y12) hY
  have s1 : (x.c : Int) / 4096 = ((x.c / 4096 : Nat) : Int) := rfl
  rw [show ((67108864 : Nat) : Int) = 67108864 from rfl] at q1
  rw [show ((4503599627370496 : Nat) : Int) = 4503599627370496 from rfl] at q2
  rw [show ((4294967296 : Nat) : Int) = 4294967296 from rfl] at q3 q6
  rw [show ((16384 : Nat) : Int) = 16384 from rfl] at q4
  rw [show ((1099511627776 : Nat) : Int) = 1099511627776 from rfl] at q5
  clear lw lb hw hb lY hY hh
  obtain ⟨n1, en1⟩ : ∃ n, x.b * 67108864 = n := ⟨_, rfl⟩
  obtain ⟨n2, en2⟩ : ∃ n, x.c % 4096 * 4503599627370496 = n := ⟨_, rfl⟩
  obtain ⟨n3, en3⟩ : ∃ n, v4 * 4294967296 = n := ⟨_, rfl⟩
  obtain ⟨n4, en4⟩ : ∃ n, x.d * 16384 = n := ⟨_, rfl⟩
  obtain ⟨n5, en5⟩ : ∃ n, x.e % 16777216 * 1099511627776 = n := ⟨_, rfl⟩
  obtain ⟨n6, en6⟩ : ∃ n, v12 * 4294967296 = n := ⟨_, rfl⟩
  obtain ⟨n7, en7⟩ : ∃ n, x.c / 4096 = n := ⟨_, rfl⟩
  rw [en1] at q1 o1 o2
  rw [en2] at q2 o2
  rw [en3] at q3 o3
  rw [en4] at q4 o4 o5
  rw [en5] at q5 o5
  rw [en6] at q6 o6
  rw [en7] at o4 o5 s1
  obtain ⟨n8, en8⟩ : ∃ n, x.a ||| n1 = n := ⟨_, rfl⟩
  obtain ⟨n9, en9⟩ : ∃ n, n7 ||| n4 = n := ⟨_, rfl⟩
  rw [en8] at o1 o2
  rw [en9] at o4 o5
  obtain ⟨cr, hcr⟩ : ∃ cr, (l0 + l1 + 0) / 18446744073709551616 = cr := ⟨_, rfl⟩
  have hc1 : cr ≤ 1 := L_cr z0 z1 hcr
  rw [hcr] at hhi
  obtain ⟨c2, hc2⟩ : ∃ c2, (l2 + l3 + cr) / 18446744073709551616 = c2 := ⟨_, rfl⟩
  have hdl := dig_low T
  have hdh := dig_high T
  obtain ⟨lo, elo⟩ : ∃ n, T % 18446744073709551616 = n := ⟨_, rfl⟩
  obtain ⟨hi, ehi⟩ : ∃ n, T / 18446744073709551616 % 18446744073709551616 = n := ⟨_, rfl⟩
  have HT0 := Lib.hid (show lo < 18446744073709551616 by rw [← elo]; exact Nat.mod_lt _ (by decide))
  have HT1 := Lib.hid (show hi < 18446744073709551616 by rw [← ehi]; exact Nat.mod_lt _ (by decide))
  rw [elo] at hdl hlo
  rw [ehi] at hdh hhi
  have a1 := add64P l0 l1 0 lo cr (by decide) hlo hcr.symm
  have a2 := add64P l2 l3 cr hi c2 hc1 hhi hc2.symm
  rw [show ((0 : Nat) : Int) = 0 from rfl] at a1
  have HDL := Lib.hid hdl
  have HDH := Lib.hid hdh
  rw [← finL_end]
  obtain ⟨R, hR⟩ : ∃ R, bs (finL T 8) = R := ⟨_, rfl⟩
  rw [hR]
  have HR8 := Lib.hid hR
  have HF0 := Lib.hid (finL_zero T)
  have HFS := Lib.hid (finL_step T)
  clear hcr hlo hhi HRES hR hdl hdh en1 en2 en3 en4 en5 en6 en7 en8 en9 hc2 elo ehi hc1 z0 z1 y0 y4 y8 y12
  generalize x.a = xa at *
  generalize x.b = xb at *
  generalize x.c = xc at *
  generalize x.d = xd at *
  generalize x.e = xe at *
  have R0 := (Rw.nil w).alloc #[.int .u64 (xa : Int), .int .u64 (xb : Int), .int .u64 (xc : Int), .int .u64 (xd : Int), .int .u64 (xe : Int)] 142
  simp only [List.nil_append] at R0
  have RR0 := Lib.hid R0
  clear R0 h0 h1 h2 h3 h4
  go_enter Tryz.func124, Tryz.ntmps124
  go_upto_region 1 with fail
  generalize w.alloc (.cells #[.int .u64 (xa : Int), .int .u64 (xb : Int), .int .u64 (xc : Int), .int .u64 (xd : Int), .int .u64 (xe : Int)] 142 (0, 0)) = W at RR0 ⊢
  generalize hA : w.heap.size = ga at *
  have HA := Lib.hid hA
  clear hA
  have k0 : ∀ p : BW W, p.1.cell? ⟨ga, 0, none⟩ = some (.int .u64 (xa : Int)) := fun p => (RR0.out.on p.2).cell 0 0 rfl
  have k1 : ∀ p : BW W, p.1.cell? ⟨ga, 1, none⟩ = some (.int .u64 (xb : Int)) := fun p => (RR0.out.on p.2).cell 0 1 rfl
  have k2 : ∀ p : BW W, p.1.cell? ⟨ga, 2, none⟩ = some (.int .u64 (xc : Int)) := fun p => (RR0.out.on p.2).cell 0 2 rfl
  refine wp_region_below (by kernel_rfl) (by kernel_rfl) ?_
  repeat (go_big_quiet_step (fail))
  go_big_quiet_step (exact calls_below (W0.out _))
  repeat (go_big_quiet_step (fail))
  go_big_quiet_step (exact calls_below (W4.out _))
  repeat (go_big_quiet_step (fail))
  refine wpQuiet_nil ?_
  rintro _ ⟨p, rfl⟩
  have R1 := Lib.hid (RR0.out.on p.2)
  generalize p.1 = w1 at R1 ⊢
  clear k0 k1 k2 RR0 W0 W4 o1 o2 o3 q1 q2 q3 a1
  go_upto_region 2 with fail
  have k2 : ∀ p : BW w1, p.1.cell? ⟨ga, 2, none⟩ = some (.int .u64 (xc : Int)) := fun p => (R1.out.on p.2).cell 0 2 rfl
  have k3 : ∀ p : BW w1, p.1.cell? ⟨ga, 3, none⟩ = some (.int .u64 (xd : Int)) := fun p => (R1.out.on p.2).cell 0 3 rfl
  have k4 : ∀ p : BW w1, p.1.cell? ⟨ga, 4, none⟩ = some (.int .u64 (xe : Int)) := fun p => (R1.out.on p.2).cell 0 4 rfl
  refine wp_region_below (by kernel_rfl) (by kernel_rfl) ?_
  repeat (go_big_quiet_step (fail))
  go_big_quiet_step (exact calls_below (W8.out _))
  repeat (go_big_quiet_step (fail))
  go_big_quiet_step (exact calls_below (W12.out _))
  repeat (go_big_quiet_step (fail))
  refine wpQuiet_nil ?_
  rintro _ ⟨p, rfl⟩
  have R2 := Lib.hid (R1.out.on p.2)
  generalize p.1 = w2 at R2 ⊢
  clear k2 k3 k4 R1 W8 W12 o4 o5 o6 q4 q5 q6 a2 s1
  have B0 := Lib.hid (show Bt 156 w2.heap.size w (finL T 0) (w2.alloc (.cells #[.int .u8 0, .int .u8 0, .int .u8 0, .int .u8 0, .int .u8 0, .int .u8 0, .int .u8 0, .int .u8 0, .int .u8 0, .int .u8 0, .int .u8 0, .int .u8 0, .int .u8 0, .int .u8 0, .int .u8 0, .int .u8 0] 156 (0, 0))) from by
    rw [HF0.out, zeros16]; exact Bt.made R2.out.bel _)
  go_upto_region 4 with fail
  generalize w2.alloc (.cells #[.int .u8 0, .int .u8 0, .int .u8 0, .int .u8 0, .int .u8 0, .int .u8 0, .int .u8 0, .int .u8 0, .int .u8 0, .int .u8 0, .int .u8 0, .int .u8 0, .int .u8 0, .int .u8 0, .int .u8 0, .int .u8 0] 156 (0, 0)) = w3 at B0 ⊢
  generalize w2.heap.size = go at B0 ⊢
  clear R2
  go_wp2_with fail
  go_loopw [53] (fun c wr => ∃ j : Nat, j ≤ 8 ∧ c = .int .i64 j ∧ Bt 156 go w (finL T j) wr) (fun c _ => 8 - (intOf c).toNat)
  case atStart => exact ⟨0, by omega, rfl, B0.out⟩
  case round =>
    obtain ⟨j, hj, rfl, hr⟩ := hrel
    have R4 := Lib.hid hr
    clear hr B0
    by_cases hlt : j < 8
    · have j1 : (j : Int) < 8 := by omega
      have j0 : (0 : Int) ≤ j := by omega
      have HLT := Lib.hid hlt
      have r8 : j = 0 ∨ j = 1 ∨ j = 2 ∨ j = 3 ∨ j = 4 ∨ j = 5 ∨ j = 6 ∨ j = 7 := by omega
      have cj := R4.out.cell j (by rw [length_finL]; omega)
      have fj := R4.out.free j
      have put := R4.out.put j (UInt8.ofNat (T / 256 ^ j % 256))
      have ck := put.cell (8 + j) (by rw [List.length_set, length_finL]; omega)
      have fk := put.free (8 + j)
      have put2 := put.put (8 + j) (UInt8.ofNat (T / 256 ^ (8 + j) % 256))
      rw [HFS.out j hlt] at put2
      have d1 := HDL.out j hlt
      have d2 := HDH.out j hlt
      have b1 := dig_lt 256 (by decide) T j
      have b2 := dig_lt 256 (by decide) T (8 + j)
      obtain ⟨x1, ex1⟩ : ∃ n, T / 256 ^ j % 256 = n := ⟨_, rfl⟩
      obtain ⟨x2, ex2⟩ : ∃ n, T / 256 ^ (8 + j) % 256 = n := ⟨_, rfl⟩
      rw [ex1] at put put2 d1 b1 ck fk
      rw [ex2] at put2 d2 b2
      have hv1 : valB (UInt8.ofNat x1) = .int .u8 (x1 : Int) := by rw [valB, UInt8.toNat_ofNat', show x1 % 2 ^ 8 = x1 by omega]
      have hv2 : valB (UInt8.ofNat x2) = .int .u8 (x2 : Int) := by rw [valB, UInt8.toNat_ofNat', show x2 % 2 ^ 8 = x2 by omega]
      rw [hv1] at put put2 ck fk
      rw [hv2] at put2
      have PUT := Lib.hid put2
      generalize ((finL T j).getD j 0).toNat = u1 at cj
      generalize (((finL T j).set j (UInt8.ofNat x1)).getD (8 + j) 0).toNat = u2 at ck
      have l0 := HT0.out
      have l1 := HT1.out
      have LL := Lib.hid (And.intro l0 l1)
      obtain ⟨k, hk⟩ : ∃ k, 8 + j = k := ⟨_, rfl⟩
      rw [hk] at ck fk PUT
      have e3 : (8 : Int) + (j : Int) = (k : Int) := by omega
      have e4 : (k : Int) < 16 := by omega
      have e5 : (0 : Int) ≤ (k : Int) := by omega
      have D1 := Lib.hid d1
      have D2 := Lib.hid d2
      clear hlt hj put put2 ex1 ex2 hv1 hv2 b1 b2 d1 d2 l0 l1 hk
      have lo0 : (0 : Int) ≤ (lo : Int) := by omega
      have hi0 : (0 : Int) ≤ (hi : Int) := by omega
      rcases r8 with h8 | h8 | h8 | h8 | h8 | h8 | h8 | h8
      · have rk : (8 : Int) * (j : Int) = 0 := by omega
        have vb : (lo : Int) % 256 = (x1 : Int) := by have := D1.out; rw [h8, show (256 : Nat) ^ 0 = 1 by decide] at this; omega
        have vh : (hi : Int) % 256 = (x2 : Int) := by have := D2.out; rw [h8, show (256 : Nat) ^ 0 = 1 by decide] at this; omega
        clear h8
        go_upto_region 8 with fail
        generalize World.setCell wr _ _ = w6 at ck fk PUT ⊢
        clear cj fj vb
        go_wp2_with fail
        go_roundw
        case rel => exact ⟨j + 1, by have := HLT.out; omega, by go_num, PUT.out⟩
        case measure => simp [intOf]; have := HLT.out; omega
      · have rk : (8 : Int) * (j : Int) = 8 := by omega
        have vb : (lo : Int) / 256 % 256 = (x1 : Int) := by have := D1.out; rw [h8, show (256 : Nat) ^ 1 = 256 by decide] at this; omega
        have vh : (hi : Int) / 256 % 256 = (x2 : Int) := by have := D2.out; rw [h8, show (256 : Nat) ^ 1 = 256 by decide] at this; omega
        clear h8
        go_upto_region 8 with fail
        generalize World.setCell wr _ _ = w6 at ck fk PUT ⊢
        clear cj fj vb
        go_wp2_with fail
        go_roundw
        case rel => exact ⟨j + 1, by have := HLT.out; omega, by go_num, PUT.out⟩
        case measure => simp [intOf]; have := HLT.out; omega
      · have rk : (8 : Int) * (j : Int) = 16 := by omega
        have vb : (lo : Int) / 65536 % 256 = (x1 : Int) := by have := D1.out; rw [h8, show (256 : Nat) ^ 2 = 65536 by decide] at this; omega
        have vh : (hi : Int) / 65536 % 256 = (x2 : Int) := by have := D2.out; rw [h8, show (256 : Nat) ^ 2 = 65536 by decide] at this; omega
        clear h8
        go_upto_region 8 with fail
        generalize World.setCell wr _ _ = w6 at ck fk PUT ⊢
        clear cj fj vb
        go_wp2_with fail
        go_roundw
        case rel => exact ⟨j + 1, by have := HLT.out; omega, by go_num, PUT.out⟩
        case measure => simp [intOf]; have := HLT.out; omega
      · have rk : (8 : Int) * (j : Int) = 24 := by omega
        have vb : (lo : Int) / 16777216 % 256 = (x1 : Int) := by have := D1.out; rw [h8, show (256 : Nat) ^ 3 = 16777216 by decide] at this; omega
        have vh : (hi : Int) / 16777216 % 256 = (x2 : Int) := by have := D2.out; rw [h8, show (256 : Nat) ^ 3 = 16777216 by decide] at this; omega
        clear h8
        go_upto_region 8 with fail
        generalize World.setCell wr _ _ = w6 at ck fk PUT ⊢
        clear cj fj vb
        go_wp2_with fail
        go_roundw
        case rel => exact ⟨j + 1, by have := HLT.out; omega, by go_num, PUT.out⟩
        case measure => simp [intOf]; have := HLT.out; omega
      · have rk : (8 : Int) * (j : Int) = 32 := by omega
        have vb : (lo : Int) / 4294967296 % 256 = (x1 : Int) := by have := D1.out; rw [h8, show (256 : Nat) ^ 4 = 4294967296 by decide] at this; omega
        have vh : (hi : Int) / 4294967296 % 256 = (x2 : Int) := by have := D2.out; rw [h8, show (256 : Nat) ^ 4 = 4294967296 by decide] at this; omega
        clear h8
        go_upto_region 8 with fail
        generalize World.setCell wr _ _ = w6 at ck fk PUT ⊢
        clear cj fj vb
        go_wp2_with fail
        go_roundw
        case rel => exact ⟨j + 1, by have := HLT.out; omega, by go_num, PUT.out⟩
        case measure => simp [intOf]; have := HLT.out; omega
      · have rk : (8 : Int) * (j : Int) = 40 := by omega
        have vb : (lo : Int) / 1099511627776 % 256 = (x1 : Int) := by have := D1.out; rw [h8, show (256 : Nat) ^ 5 = 1099511627776 by decide] at this; omega
        have vh : (hi : Int) / 1099511627776 % 256 = (x2 : Int) := by have := D2.out; rw [h8, show (256 : Nat) ^ 5 = 1099511627776 by decide] at this; omega
        clear h8
        go_upto_region 8 with fail
        generalize World.setCell wr _ _ = w6 at ck fk PUT ⊢
        clear cj fj vb
        go_wp2_with fail
        go_roundw
        case rel => exact ⟨j + 1, by have := HLT.out; omega, by go_num, PUT.out⟩
        case measure => simp [intOf]; have := HLT.out; omega
      · have rk : (8 : Int) * (j : Int) = 48 := by omega
        have vb : (lo : Int) / 281474976710656 % 256 = (x1 : Int) := by have := D1.out; rw [h8, show (256 : Nat) ^ 6 = 281474976710656 by decide] at this; omega
        have vh : (hi : Int) / 281474976710656 % 256 = (x2 : Int) := by have := D2.out; rw [h8, show (256 : Nat) ^ 6 = 281474976710656 by decide] at this; omega
        clear h8
        go_upto_region 8 with fail
        generalize World.setCell wr _ _ = w6 at ck fk PUT ⊢
        clear cj fj vb
        go_wp2_with fail
        go_roundw
        case rel => exact ⟨j + 1, by have := HLT.out; omega, by go_num, PUT.out⟩
        case measure => simp [intOf]; have := HLT.out; omega
      · have rk : (8 : Int) * (j : Int) = 56 := by omega
        have vb : (lo : Int) / 72057594037927936 % 256 = (x1 : Int) := by have := D1.out; rw [h8, show (256 : Nat) ^ 7 = 72057594037927936 by decide] at this; omega
        have vh : (hi : Int) / 72057594037927936 % 256 = (x2 : Int) := by have := D2.out; rw [h8, show (256 : Nat) ^ 7 = 72057594037927936 by decide] at this; omega
        clear h8
        go_upto_region 8 with fail
        generalize World.setCell wr _ _ = w6 at ck fk PUT ⊢
        clear cj fj vb
        go_wp2_with fail
        go_roundw
        case rel => exact ⟨j + 1, by have := HLT.out; omega, by go_num, PUT.out⟩
        case measure => simp [intOf]; have := HLT.out; omega
    · have j1 : ¬ ((j : Int) < 8) := by omega
      have hj8 : j = 8 := by omega
      have r7 := R4.out
      rw [hj8] at r7
      have hcv := r7.conv 16 16 (length_finL T 8)
      rw [HR8.out] at hcv
      have HB := Lib.hid r7.bel
      clear r7 hj8 hlt hj R4
      go_wp2_with fail
      go_ret
      exact ⟨rfl, HB.out⟩
end Go.Proofs.YtfckjilhkdlpfaaGreatDoor

namespace Go.Proofs.YtfckjilhkdlpfaaGreatDoor
open Go.RowKit MS
theorem wpQuiet_load_rowP {P : Program} {ops : Array Oper} {C : World → Prop} {Q : Act → Prop} {a : Act} {o : Oper} {rest : List Oper} (hgd : o.guard = none) (ty : TypeId) (x : Operand) (ho : o.op = .load ty x)
    (g : Nat) (hx : a.eval x = .pointer (some ⟨g, 0, none⟩)) (t : TypeId) (cs : Array Value) (fr : Nat × Nat) (d : TypeDesc) (hC : ∀ w, C w → w.heap[g]? = some (.cells cs t fr))
    (hu : P.underlying ty = some d) (hd : (match d with | .struct _ | .array _ _ => true | _ => false) = true) (hi : (P.info? ty).map (·.size) = some cs.size)
    (h : wpQuiet P ops C Q rest (a.put o.dst (.agg cs))) : wpQuiet P ops C Q (o :: rest) a := by
  show if Region.wanted o (yielded ops a.tmps) = true then _ else _
  rw [if_pos (by simp [Region.wanted, hgd])]
  refine ⟨.agg cs, fun w hw => ?_, h⟩
  unfold Oper.quietAt execOp
  simp only [ho, hx, Instr.loadAt, Instr.sureAddr, Sem.run_bind, Sem.run_pure, Result.andThen_ok, run_loadVar_row w g t ty cs fr d (hC w hw) hu hd hi]
  exact ⟨rfl, rfl⟩

def addL (h b : L5) : L5 := ⟨h.a + b.a, h.b + b.b, h.c + b.c, h.d + b.d, h.e + b.e⟩
theorem addL_v (h b : L5) : (addL h b).v = h.v + b.v := by
  simp only [addL, L5.v]; omega
theorem addL_row (h b : L5) : rowF (fun i => getL h i + getL b i) = lvA (addL h b) := rowF_congr fun i hi => by
  have : i = 0 ∨ i = 1 ∨ i = 2 ∨ i = 3 ∨ i = 4 := by omega
  rcases this with rfl | rfl | rfl | rfl | rfl <;> rfl
/-- A block's limbs. -/
def fullL (v : Nat) : L5 := ⟨(splitL v).a, (splitL v).b, (splitL v).c, (splitL v).d, (splitL v).e + 16777216⟩
theorem fullL_v (v : Nat) : (fullL v).v = v + 256 ^ 16 := by
  have := splitL_v v
  rw [show (256 : Nat) ^ 16 = 340282366920938463463374607431768211456 by decide]
  unfold L5.v at this
  simp only [fullL, L5.v]
  omega
theorem fullL_in {v : Nat} (h : v < 340282366920938463463374607431768211456) : (fullL v).in26 := by
  obtain ⟨⟨h0, h1, h2, h3, h4⟩, h5⟩ := splitL_in h
  unfold L5.in26 fullL
  simp only
  omega
theorem fullL_row (v : Nat) : rowF (upd (getL (splitL v)) 4 (getL (splitL v) 4 + 16777216)) = lvA (fullL v) := by
  refine rowF_congr fun i hi => ?_
  have : i = 0 ∨ i = 1 ∨ i = 2 ∨ i = 3 ∨ i = 4 := by omega
  rcases this with rfl | rfl | rfl | rfl | rfl <;> simp [upd, getL, fullL]
theorem addL_in {h b : L5} (hh : h.in27) (hb : b.in26) : (addL h b).in28 := by
  obtain ⟨h0, h1, h2, h3, h4⟩ := hh
  obtain ⟨b0, b1, b2, b3, b4⟩ := hb
  unfold L5.in28 addL
  simp only
  omega
/-- One round of the sum. -/
theorem tag_round {h b r : L5} {H : Nat} (hh : h.in27) (hb : b.in26) (hr : r.in26) (hH : h.v % P130 = H) : (mulL (addL h b) r).in27 ∧ (mulL (addL h b) r).v % P130 = (H + b.v) * r.v % P130 := by
  refine ⟨mulL_in (addL_in hh hb) hr, ?_⟩
  rw [mulL_mod, addL_v, ← hH]
  conv => lhs; rw [Nat.mul_mod, Nat.add_mod]
  conv => rhs; rw [Nat.mul_mod, Nat.add_mod, Nat.mod_mod]
def strSize : Value → Nat
  | .string b => b.size
  | _ => 0
def zeroL : L5 := ⟨0, 0, 0, 0, 0⟩
/-- What the outer loop keeps. -/
structure TgS (w0 : World) (g6 g7 r V : Nat) (l : List UInt8) (k : Nat) (w : World) : Prop where
  st : ∃ h : L5, h.in27 ∧ h.v % P130 = hP r l k ∧ Rw w0 [(g6, lvA (pclampL V), 142), (g7, lvA h, 142)] w

theorem cur_size (s : ByteArray) (k : Nat) : (s.extract (16 * k) s.size).size = s.size - 16 * k := size_extract_to s (16 * k)
theorem cur_head (s : ByteArray) (k : Nat) (h : 16 * k + 16 ≤ s.size) : ls ((s.extract (16 * k) s.size).extract 0 16) = blkP (ls s) k := by
  rw [extract_head s (16 * k) 16 h, ls_extract, blkP, Nat.add_sub_cancel_left]
theorem cur_last (s : ByteArray) (k : Nat) (h : s.size < 16 * k + 16) : ls (s.extract (16 * k) s.size) = blkP (ls s) k := by
  have hl := length_ls s
  rw [ls_extract, blkP, List.take_of_length_le (by simp; omega), List.take_of_length_le (by simp; omega)]
theorem ext_whole (s : ByteArray) : s.extract 0 s.size = s := by
  apply ls_inj
  rw [ls_extract, List.drop_zero, List.take_of_length_le (by rw [length_ls]; omega)]
theorem cur_next (s : ByteArray) (k : Nat) (h : 16 * k + 16 ≤ s.size) : (s.extract (16 * k) s.size).extract 16 (s.size - 16 * k) = s.extract (16 * (k + 1)) s.size := extract_tail s (16 * k) 16 h
set_option maxRecDepth 1000000 in
set_option maxHeartbeats 4000000 in
theorem tag_yes (key s : ByteArray) (w : World) (hk : key.size = 32) (hs : s.size ≤ 100000) :
    Calls Tryz.prog 93 #[.string key, .string s] w fun e w' => e = .returned (.tuple #[.string (tagB key s), .bool true]) ∧ Below w.heap.size w w' := by
  have t1 : ((key.size : Int) != 32) = false := by simp; omega
  have k16 : (16 : Int) ≤ key.size := by omega
  have e1 : (key.extract 0 16).size = 16 := by rw [ByteArray.size_extract]; omega
  have e2 : ls (key.extract 0 16) = (ls key).take 16 := by rw [ls_extract, List.drop_zero]
  have e3 : (key.extract 16 key.size).size = 16 := by rw [ByteArray.size_extract]; omega
  have e4 : ls (key.extract 16 key.size) = (ls key).drop 16 := by
    rw [ls_extract, List.take_of_length_le (by rw [List.length_drop, length_ls]; omega)]
  have C1 := Lib.hid (fun w => polyclamp_any (key.extract 0 16) w e1)
  have F1 := Lib.hid (fun x hx w => finish_poly x (key.extract 16 key.size) hx e3 w)
  rw [e2] at C1
  rw [e4] at F1
  have HLV := Lib.hid (show leb ((ls key).take 16) < 340282366920938463463374607431768211456 by
    have := leb_lt ((ls key).take 16)
    rwa [List.length_take, length_ls, hk, show (256 : Nat) ^ min 16 32 = 340282366920938463463374607431768211456 by decide] at this)
  have HR := Lib.hid (show tagB key s = bs (nbs 16 (hP (clampN (leb ((ls key).take 16))) (ls s) ((s.size + 15) / 16) + leb ((ls key).drop 16))) from rfl)
  have HV := Lib.hid (show clampN (leb ((ls key).take 16)) = (pclampL (leb ((ls key).take 16))).v from rfl)
  have HIN := Lib.hid (pclampL_in HLV.out)
  have HS := Lib.hid hs
  generalize leb ((ls key).take 16) = V at *
  generalize leb ((ls key).drop 16) = H at *
  generalize tagB key s = R at HR ⊢
  have R0 := Rw.nil w
  have IR := Lib.hid (pinfoL (getL (pclampL V)))
  have OR := Lib.hid (one_rowF (getL (pclampL V)))
  have LR := Lib.hid (show (#[.int .u64 0, .int .u64 0, .int .u64 0, .int .u64 0, .int .u64 0] : Array Value).size = (rowF (getL (pclampL V))).size from rfl)
  have C2 := Lib.hid (show ∀ w, Calls Tryz.prog 120 #[.string (key.extract 0 16)] w fun e w' => e = .returned (.agg (rowF (getL (pclampL V)))) ∧ Below w.heap.size w w' from C1.out)
  clear hk hs e1 e2 e3 e4 C1
  go_enter Tryz.func93, Tryz.ntmps93
  go_wp2_with fail
  refine (C2.out _).mono ?_
  rintro e w1 ⟨rfl, hb1⟩
  have R1 := (R0.on hb1).alloc #[.int .u64 0, .int .u64 0, .int .u64 0, .int .u64 0, .int .u64 0] 142
  simp only [List.nil_append] at R1
  have RW1 := Lib.hid (R1.row 0)
  have R2 := R1.store 0 (rowF (getL (pclampL V)))
  simp only [List.set_cons_zero] at R2
  have RR2 := Lib.hid R2
  clear hb1 R0 R1 R2 C2
  go_upto_region 4 with (with_reducible refine wpList_store_row rfl 142 (.tmp 6) (.tmp 16) rfl w1.heap.size (rowF (getL (pclampL V))) rfl rfl 142 #[.int .u64 0, .int .u64 0, .int .u64 0, .int .u64 0, .int .u64 0] RW1.out IR.out LR.out OR.out ?_)
  generalize World.setRow _ _ (rowF (getL (pclampL V))) = w2 at RR2 ⊢
  generalize w1.heap.size = g6 at RR2 ⊢
  have R3 := RR2.out.alloc #[.int .u64 0, .int .u64 0, .int .u64 0, .int .u64 0, .int .u64 0] 142
  simp only [List.cons_append, List.nil_append] at R3
  have RR3 := Lib.hid (show Rw w [(g6, lvA (pclampL V), 142), (w2.heap.size, lvA zeroL, 142)] (w2.alloc (.cells #[.int .u64 0, .int .u64 0, .int .u64 0, .int .u64 0, .int .u64 0] 142 (0, 0))) from R3)
  clear R3 RR2 RW1
  go_wp2_with fail
  generalize w2.alloc (.cells #[.int .u64 0, .int .u64 0, .int .u64 0, .int .u64 0, .int .u64 0] 142 (0, 0)) = w3 at RR3 ⊢
  generalize w2.heap.size = g7 at RR3 ⊢
  have HX0 := Lib.hid (show Value.string s = .string (s.extract (16 * 0) s.size) by rw [Nat.mul_zero, ext_whole])
  have T0 := Lib.hid (show TgS w g6 g7 (clampN V) V (ls s) 0 w3 from ⟨zeroL, by unfold L5.in27 zeroL; decide, by rfl, RR3.out⟩)
  clear RR3
  go_loopw [1] (fun sv wr => ∃ k : Nat, k ≤ (s.size + 15) / 16 ∧ sv = .string (s.extract (16 * k) s.size) ∧ TgS w g6 g7 (clampN V) V (ls s) k wr) (fun sv _ => strSize sv)
  case atStart => exact ⟨0, Nat.zero_le _, HX0.out, T0.out⟩
  case round =>
    obtain ⟨k, hkn, rfl, hr⟩ := hrel
    obtain ⟨h, h27, hv, R4⟩ := hr.st
    have RR4 := Lib.hid R4
    have H27 := Lib.hid h27
    have HHV := Lib.hid hv
    have HKN := Lib.hid hkn
    have hcs := cur_size s k
    clear hr R4 h27 hv hkn T0 HX0
    obtain ⟨cur, hcur⟩ : ∃ cur, s.extract (16 * k) s.size = cur := ⟨_, rfl⟩
    rw [hcur] at hcs ⊢
    have HCUR := Lib.hid hcur
    have sb : (cur.size : Int) ≤ 100000 := by have := HS.out; omega
    have HCS := Lib.hid hcs
    by_cases hlt : 16 * k < s.size
    · have j1 : (cur.size : Int) > 0 := by omega
      have HLT := Lib.hid hlt
      by_cases hfull : 16 * k + 16 ≤ s.size
      case' pos =>
        have q1 : (16 : Int) ≤ cur.size := by omega
        have q2 : (if (cur.size : Int) < 16 then (cur.size : Int) else 16) = 16 := if_neg (by omega)
        have q3 : True := trivial
        have hb16 : (cur.extract 0 16).size = 16 := by rw [ByteArray.size_extract]; omega
        have P1 := Lib.hid (fun w => pad_full (cur.extract 0 16) w hb16)
        have S1 := Lib.hid (fun w => split_any (cur.extract 0 16) w hb16)
        have hblk := cur_head s k hfull
        rw [hcur] at hblk
        rw [hblk] at S1
        have hlv : leb (blkP (ls s) k) < 340282366920938463463374607431768211456 := by
          have := leb_lt (ls (cur.extract 0 16))
          rwa [hblk, ← hblk, length_ls, hb16, hblk, show (256 : Nat) ^ 16 = 340282366920938463463374607431768211456 by decide] at this
        have HBIN := Lib.hid (fullL_in hlv)
        have HBV := Lib.hid (show (fullL (leb (blkP (ls s) k))).v = leb (blkP (ls s) k) + 256 ^ (blkP (ls s) k).length from by
          rw [fullL_v, ← hblk, length_ls, hb16])
        have HROW := Lib.hid (fullL_row (leb (blkP (ls s) k)))
        have B26 := Lib.hid (getL_26 (splitL_in hlv).1)
        have HNX := Lib.hid (show cur.extract 16 cur.size = s.extract (16 * (k + 1)) s.size from by rw [← hcur, cur_size]; exact cur_next s k hfull)
        have S2 := Lib.hid (show ∀ w, Calls Tryz.prog 121 #[.string (cur.extract 0 16)] w fun e w' => e = .returned (.agg (rowF (getL (splitL (leb (blkP (ls s) k)))))) ∧ Below w.heap.size w w' from S1.out)
        obtain ⟨b, hb⟩ : ∃ b, fullL (leb (blkP (ls s) k)) = b := ⟨_, rfl⟩
        rw [hb] at HBIN HBV HROW
        generalize getL (splitL (leb (blkP (ls s) k))) = X at *
        have IX := Lib.hid (pinfoL X)
        have OX := Lib.hid (one_rowF X)
        have LX := Lib.hid (show (#[.int .u64 0, .int .u64 0, .int .u64 0, .int .u64 0, .int .u64 0] : Array Value).size = (rowF X).size from rfl)
        clear hcur hcs hlt hfull hb16 hblk hlv S1 hb
        go_wp2_with fail
        refine (P1.out _).mono ?_
        rintro e w4 ⟨rfl, hb4⟩
        have R5 := Lib.hid (RR4.out.on hb4)
        clear hb4 P1
        go_wp2_with fail
        refine (S2.out _).mono ?_
        rintro e w5 ⟨rfl, hb5⟩
        have R6 := (R5.out.on hb5).alloc #[.int .u64 0, .int .u64 0, .int .u64 0, .int .u64 0, .int .u64 0] 142
        simp only [List.cons_append, List.nil_append] at R6
        have RW6 := Lib.hid (R6.row 2)
        have R7 := R6.store 2 (rowF X)
        simp only [List.set_cons_zero, List.set_cons_succ] at R7
        have R8 := Lib.hid R7
        clear hb5 S2 R5 R6 R7 RR4
        go_upto_region 9 with (with_reducible refine wpList_store_row rfl 142 (.tmp 9) (.tmp 27) rfl w5.heap.size (rowF X) rfl rfl 142 #[.int .u64 0, .int .u64 0, .int .u64 0, .int .u64 0, .int .u64 0] RW6.out IX.out LX.out OX.out ?_)
        generalize World.setRow _ _ (rowF X) = w7 at R8 ⊢
        generalize w5.heap.size = g9 at R8 ⊢
        have k4 := R8.out.cell 2 4 (rowF_get _ 4 (by decide))
        have f4 := R8.out.free 2 4
        have p4 := R8.out.put 2 4 (.int .u64 ((X 4 + 16777216 : Nat) : Int))
        rw [rowF_set _ _ _ (by decide), HROW.out] at p4
        simp only [List.set_cons_zero, List.set_cons_succ] at p4
        have b4 := B26.out 4
        have q4 : ((X 4 + 16777216 : Nat) : Int) = (X 4 : Int) + 16777216 := by omega
        rw [q4] at p4
        have P4 := Lib.hid p4
        generalize X 4 = x4 at *
        have b5 : (x4 : Int) < 67108864 := by omega
        clear p4 R8 RW6 IX OX LX B26 HROW q4 b4
        go_upto_region 10 with fail
        generalize World.setCell _ _ _ = wq at P4 ⊢
        have RR9 := Lib.hid P4.out
        clear P4 k4 f4 b5
      case' neg =>
        have q1 : True := trivial
        have q2 : (if (cur.size : Int) < 16 then (cur.size : Int) else 16) = (cur.size : Int) := if_pos (by omega)
        have q3 : ((cur.size : Int) == 16) = false := by simp; omega
        have hb16 : cur.size ≤ 15 := by omega
        have P1 := Lib.hid (fun w => pad_part cur w hb16)
        have S1 := Lib.hid (fun w => split_any (padP cur) w (size_padP cur hb16))
        have hblk := cur_last s k (by omega)
        rw [hcur] at hblk
        rw [leb_padP, hblk] at S1
        have hlv : leb (blkP (ls s) k) + 256 ^ cur.size < 340282366920938463463374607431768211456 := by
          have := leb_lt (ls (padP cur))
          rwa [leb_padP, hblk, length_ls, size_padP cur hb16, show (256 : Nat) ^ 16 = 340282366920938463463374607431768211456 by decide] at this
        have HBIN := Lib.hid (splitL_in hlv).1
        have HBV := Lib.hid (show (splitL (leb (blkP (ls s) k) + 256 ^ cur.size)).v = leb (blkP (ls s) k) + 256 ^ (blkP (ls s) k).length from by
          rw [splitL_v, ← hblk, length_ls])
        have hext := ext_whole cur
        have HNX := Lib.hid (show ByteArray.empty = s.extract (16 * (k + 1)) s.size from by apply ls_inj; rw [ls_extract, show s.size - 16 * (k + 1) = 0 by omega, List.take_zero]; rfl)
        have S2 := Lib.hid (show ∀ w, Calls Tryz.prog 121 #[.string (padP cur)] w fun e w' => e = .returned (.agg (rowF (getL (splitL (leb (blkP (ls s) k) + 256 ^ cur.size))))) ∧ Below w.heap.size w w' from S1.out)
        obtain ⟨b, hb⟩ : ∃ b, splitL (leb (blkP (ls s) k) + 256 ^ cur.size) = b := ⟨_, rfl⟩
        rw [hb] at HBIN HBV S2
        have IX := Lib.hid (pinfoL (getL b))
        have OX := Lib.hid (one_rowF (getL b))
        have LX := Lib.hid (show (#[.int .u64 0, .int .u64 0, .int .u64 0, .int .u64 0, .int .u64 0] : Array Value).size = (rowF (getL b)).size from rfl)
        clear hcur hcs hlt hfull hb16 hblk hlv S1 hb
        go_wp2_with fail
        refine (P1.out _).mono ?_
        rintro e w4 ⟨rfl, hb4⟩
        have R5 := Lib.hid (RR4.out.on hb4)
        clear hb4 P1
        go_wp2_with fail
        refine (S2.out _).mono ?_
        rintro e w5 ⟨rfl, hb5⟩
        have R6 := (R5.out.on hb5).alloc #[.int .u64 0, .int .u64 0, .int .u64 0, .int .u64 0, .int .u64 0] 142
        simp only [List.cons_append, List.nil_append] at R6
        have RW6 := Lib.hid (R6.row 2)
        have R7 := R6.store 2 (rowF (getL b))
        simp only [List.set_cons_zero, List.set_cons_succ] at R7
        have RR9 := Lib.hid (show Rw w [(g6, lvA (pclampL V), 142), (g7, lvA h, 142), (w5.heap.size, lvA b, 142)] (World.setRow (w5.alloc (.cells #[.int .u64 0, .int .u64 0, .int .u64 0, .int .u64 0, .int .u64 0] 142 (0, 0))) w5.heap.size (rowF (getL b))) from R7)
        clear hb5 S2 R5 R6 R7 RR4
        go_upto_region 10 with (with_reducible refine wpList_store_row rfl 142 (.tmp 9) (.tmp 27) rfl w5.heap.size (rowF (getL b)) rfl rfl 142 #[.int .u64 0, .int .u64 0, .int .u64 0, .int .u64 0, .int .u64 0] RW6.out IX.out LX.out OX.out ?_)
        generalize World.setRow _ _ (rowF (getL b)) = wq at RR9 ⊢
        generalize w5.heap.size = g9 at RR9 ⊢
        clear RW6 IX OX LX hext
      all_goals
        have RR9 := Lib.hid (show Rw w [(g6, lvA (pclampL V), 142), (g7, rowF (prog (getL h) (fun i => getL h i + getL b i) 0), 142), (g9, rowF (getL b), 142)] wq from by rw [prog_zero]; exact RR9.out)
        have BH := Lib.hid (getL_28 (show h.in28 from by obtain ⟨h0, h1, h2, h3, h4⟩ := H27.out; unfold L5.in28; omega))
        have BB := Lib.hid (getL_26 HBIN.out)
        have ROUND := Lib.hid (tag_round H27.out HBIN.out HIN.out HHV.out)
        have HSUM := Lib.hid (addL_row h b)
        have M := Lib.hid (fun w => polymul_any (addL h b) (pclampL V) (addL_in H27.out HBIN.out) HIN.out w)
        have HNEW := Lib.hid (show hP (clampN V) (ls s) (k + 1) = (hP (clampN V) (ls s) k + (leb (blkP (ls s) k) + 256 ^ (blkP (ls s) k).length)) * clampN V % P130 from rfl)
        rw [HBV.out, ← HV.out, ← HNEW.out] at ROUND
        clear q2 q3 HNEW
        go_wp2_with fail
        obtain ⟨wo, rfl⟩ : ∃ wo : World, wo = wq := ⟨_, rfl⟩
        go_loopw [34] (fun c wr => ∃ j : Nat, j ≤ 5 ∧ c = .int .i64 j ∧ Rw w [(g6, lvA (pclampL V), 142), (g7, rowF (prog (getL h) (fun i => getL h i + getL b i) j), 142), (g9, rowF (getL b), 142)] wr) (fun c _ => 5 - (intOf c).toNat)
        case atStart => exact ⟨0, by omega, rfl, RR9.out⟩
        case round =>
          obtain ⟨j, hj, rfl, hr⟩ := hrel
          have R3 := Lib.hid hr
          clear hr RR9
          by_cases hlt : j < 5
          · have m1 : (j : Int) < 5 := by omega
            have m0 : (0 : Int) ≤ j := by omega
            have ca := R3.out.cell 1 j (rowF_get _ j hlt)
            have cb := R3.out.cell 2 j (rowF_get _ j hlt)
            have fa := R3.out.free 1 j
            rw [prog_at] at ca
            have bx := BH.out j
            have bby := BB.out j
            have put := R3.out.put 1 j (.int .u64 ((getL h j + getL b j : Nat) : Int))
            rw [rowF_set _ _ _ hlt, prog_set (getL h) (fun i => getL h i + getL b i)] at put
            simp only [List.set_cons_zero, List.set_cons_succ] at put
            have PUT := Lib.hid put
            obtain ⟨xj, hxj⟩ : ∃ n, getL h j = n := ⟨_, rfl⟩
            obtain ⟨yj, hyj⟩ : ∃ n, getL b j = n := ⟨_, rfl⟩
            rw [hxj, hyj] at put
            rw [hxj] at ca bx
            rw [hyj] at cb bby
            have hs : ((xj + yj : Nat) : Int) = (xj : Int) + (yj : Int) := by omega
            rw [hs] at put
            have PUT := Lib.hid put
            have HJ := Lib.hid hlt
            clear put hlt hs hj hxj hyj
            go_wp2_with fail
            go_still_tail 8, (by kernel_rfl)
            go_wp2_with fail
            go_roundw
            case rel => exact ⟨j + 1, by have := HJ.out; omega, by go_num, PUT.out.drew⟩
            case measure => simp [intOf]; have := HJ.out; omega
          · have m1 : ¬ ((j : Int) < 5) := by omega
            have hj5 : j = 5 := by omega
            have r4 := R3.out
            rw [hj5, prog_end, HSUM.out] at r4
            have R4 := Lib.hid r4
            have RWA := Lib.hid (r4.row 0)
            have RWB := Lib.hid (r4.row 1)
            have IA := Lib.hid (show (Tryz.prog.info? 142).map (·.size) = some (lvA (pclampL V)).size from pinfoL _)
            have IB := Lib.hid (show (Tryz.prog.info? 142).map (·.size) = some (lvA (addL h b)).size from pinfoL _)
            have IC := Lib.hid (show (Tryz.prog.info? 142).map (·.size) = some (lvA (mulL (addL h b) (pclampL V))).size from pinfoL _)
            have OC := Lib.hid (show (lvA (mulL (addL h b) (pclampL V))).all (·.oneCell') = true from one_rowF _)
            have LC := Lib.hid (show (lvA (addL h b)).size = (lvA (mulL (addL h b) (pclampL V))).size from rfl)
            obtain ⟨m, hm⟩ : ∃ m, mulL (addL h b) (pclampL V) = m := ⟨_, rfl⟩
            rw [hm] at M ROUND IC OC LC
            clear r4 hj5 hlt hj R3 hm BH BB HSUM
            go_wp2_with (first
              | (with_reducible refine wpList_load_row rfl 142 (.tmp 7) rfl g7 rfl 142 (lvA (addL h b)) (0, 0) _ RWB.out Tryz.underlying142 rfl IB.out ?_)
              | (with_reducible refine wpList_load_row rfl 142 (.tmp 6) rfl g6 rfl 142 (lvA (pclampL V)) (0, 0) _ RWA.out Tryz.underlying142 rfl IA.out ?_))
            refine (M.out _).mono ?_
            rintro e w9 ⟨rfl, hb9⟩
            have R5 := Lib.hid (R4.out.on hb9)
            have RWC := Lib.hid (R5.out.row 1)
            have R6 := R5.out.store 1 (lvA m)
            simp only [List.set_cons_zero, List.set_cons_succ] at R6
            have R7 := Lib.hid (show Rw w [(g6, lvA (pclampL V), 142), (g7, lvA m, 142)] (World.setRow w9 g7 (lvA m)) from ⟨List.Nodup.sublist (List.Sublist.cons_cons _ (List.Sublist.cons_cons _ (List.nil_sublist _))) R6.nd, fun r hr => R6.ge r (by simp at hr ⊢; rcases hr with hr | hr <;> simp [hr]), fun r hr => R6.rows r (by simp at hr ⊢; rcases hr with hr | hr <;> simp [hr]), R6.bel⟩)
            clear hb9 R6 R4 RWA RWB M
            go_wp2_with (with_reducible refine wpList_store_row rfl 142 (.tmp 7) (.tmp 48) rfl g7 (lvA m) rfl rfl 142 (lvA (addL h b)) RWC.out IC.out LC.out OC.out ?_)
            rw [HNX.out]
            go_roundw
            case rel => exact ⟨k + 1, by have := HLT.out; omega, rfl, ⟨m, ROUND.out.1, ROUND.out.2, R7.out⟩⟩
            case measure => show (s.extract (16 * (k + 1)) s.size).size < cur.size; rw [HCS.out, cur_size]; have := HLT.out; omega
    · have j1 : ¬ (cur.size : Int) > 0 := by omega
      have hkn : k = (s.size + 15) / 16 := by have := HKN.out; omega
      have LE := Lib.hid (fun w => polyleast_any h H27.out w)
      have FI := Lib.hid (fun w => F1.out (leastL h) (leastL_in H27.out) w)
      have HT := Lib.hid (show (leastL h).v + H = hP (clampN V) (ls s) ((s.size + 15) / 16) + H by rw [leastL_v H27.out, HHV.out, hkn])
      rw [HT.out, ← HR.out] at FI
      have IH := Lib.hid (show (Tryz.prog.info? 142).map (·.size) = some (lvA h).size from pinfoL _)
      have BB := Lib.hid RR4.out.bel
      clear hlt hkn hcur hcs
      go_upto_region 17 with fail
      refine wp_region_below (by kernel_rfl) (by kernel_rfl) ?_
      refine wpQuiet_load_rowP rfl 142 (.tmp 7) rfl g7 rfl 142 (lvA h) (0, 0) _ ?hC Tryz.underlying142 rfl IH.out ?_
      case hC => rintro w' ⟨p, rfl⟩; exact (RR4.out.on p.2).row 1
      simp only [Act.put, List.setIfInBounds_toArray, List.set_cons_zero, List.set_cons_succ]
      go_big_quiet_step (exact calls_below (LE.out _))
      repeat (go_big_quiet_step (fail))
      go_big_quiet_step (exact calls_below (FI.out _))
      repeat (go_big_quiet_step (fail))
      refine wpQuiet_nil ?_
      rintro _ ⟨p, rfl⟩
      have BP := Lib.hid (BB.out.trans (p.2.mono BB.out.size))
      generalize p.1 = wp at BP ⊢
      go_wp2_with fail
      go_ret2
      exact ⟨rfl, BP.out⟩
end Go.Proofs.YtfckjilhkdlpfaaGreatDoor

namespace Go.Proofs.YtfckjilhkdlpfaaGreatDoor
open Go.RowKit MS
theorem alZ_mod (n k : Nat) (hk : k ≤ alZ n) : (n + k) % 16 = 0 ↔ k = alZ n := by unfold alZ at *; omega
def lenA : Value → Nat
  | .slice _ n _ => n
  | _ => 0
theorem own_form {w : World} {base n : Nat} {e : TypeId} {v : Value} {xs : List Value} (h : w.ownsRow base e 1 v n xs) : v = .slice none 0 0 ∧ n = 0 ∨ ∃ g cap, v = .slice (some ⟨g, 0, none⟩) n cap := by
  rcases Nat.eq_zero_or_pos n with h0 | h0
  · subst h0
    rcases h.2 with h1 | ⟨g, cap, cur, h1, _⟩
    · left; exact ⟨h1.1, rfl⟩
    · right; exact ⟨g, cap, h1⟩
  · obtain ⟨g, cap, h1, _⟩ := h.form h0
    exact .inr ⟨g, cap, h1⟩
theorem zeros_app (l : List UInt8) (k : Nat) : l ++ List.replicate (k + 1) 0 = l ++ List.replicate k 0 ++ [0] := by
  rw [List.append_assoc, ← List.replicate_succ']
theorem below_app2 {w0 wr w' : World} {base : Nat} (hb : Below base w0 wr) (hbase : base ≤ wr.heap.size) (o : Obj) (v : Value) (n : Nat) (e : TypeId) (xs : List Value) (ho : wr.ownsRow base e 1 v n xs) (hg : (wr.alloc o).grownBy w' v.ownBlock) : Below base w0 w' :=
  (hb.alloc hbase o).grown hg (by rw [World.size_alloc]; exact Nat.le_succ_of_le hbase) (fun m hm => (ho.lt m hm).1)

set_option maxRecDepth 100000 in
set_option maxHeartbeats 1000000 in
theorem align_any (base n : Nat) (v : Value) (l : List UInt8) (w : World) (hbase : base ≤ w.heap.size) (hl : l.length = n) (hn : n ≤ 100000) (ho : w.ownsRow base 5 1 v n (vls l)) :
    Calls Tryz.prog 91 #[v] w fun e w' => Below base w w' ∧ ∃ r, e = .returned r ∧ w'.ownsRow base 5 1 r (n + alZ n) (vls (alignL l)) := by
  obtain ⟨i8, hj0, hy0, hy1, hy2⟩ : ∃ i, Tryz.prog.info? 5 = some i ∧ i.zero = some (.int .u8 0) ∧ i.size = 1 ∧ i.bytes = 1 := ⟨_, rfl, rfl, rfl, rfl⟩
  have HO0 := Lib.hid (show w.ownsRow base 5 1 v (n + 0) (vls (l ++ List.replicate 0 0)) from by rw [Nat.add_zero, List.replicate_zero, List.append_nil]; exact ho)
  have HB0 := Lib.hid (Below.refl base w)
  have HBASE := Lib.hid hbase
  have HN := Lib.hid hn
  have HZ := Lib.hid (alZ_le n)
  have HM := Lib.hid (alZ_mod n)
  have HE := Lib.hid (show alignL l = l ++ List.replicate (alZ n) 0 from by rw [alignL, hl])
  clear ho hbase hn hl
  go_enter Tryz.func91, Tryz.ntmps91
  go_wp2_with fail
  go_loopw [0] (fun x wr => ∃ k : Nat, k ≤ alZ n ∧ wr.ownsRow base 5 1 x (n + k) (vls (l ++ List.replicate k 0)) ∧ Below base w wr) (fun x _ => n + 16 - lenA x)
  case atStart => exact ⟨0, Nat.zero_le _, HO0.out, HB0.out⟩
  case round =>
    obtain ⟨k, hk, ho, hb⟩ := hrel
    have HO := Lib.hid ho
    have HB := Lib.hid hb
    have HK := Lib.hid hk
    have hs0 : base ≤ wr.heap.size := Nat.le_trans HBASE.out hb.size
    have hm := HM.out k hk
    have hZ15 := HZ.out
    have hn5 := HN.out
    have HF := Lib.hid (own_form ho)
    clear ho hb hk HO0 HB0
    by_cases hlt : k = alZ n
    · have m0 : (n + k) % 16 = 0 := hm.2 hlt
      have m1 : (((n + k : Nat) : Int) % 16 != 0) = false := by simp; omega
      have HL := Lib.hid (show wr.ownsRow base 5 1 _ (n + alZ n) (vls (alignL l)) from by rw [HE.out, ← hlt]; exact HO.out)
      clear hm hlt m0 HM
      rcases HF.out with ⟨rfl, h0⟩ | ⟨g, cap, rfl⟩
      · rw [h0] at m1
        clear h0
        go_wp2_with fail
        go_ret
        exact ⟨HB.out, _, rfl, HL.out⟩
      · generalize n + k = q at m1 HL ⊢
        go_wp2_with fail
        go_ret
        exact ⟨HB.out, _, rfl, HL.out⟩
    · have m0 : (n + k) % 16 ≠ 0 := fun h => hlt (hm.1 h)
      have m1 : (((n + k : Nat) : Int) % 16 != 0) = true := by simp; omega
      have hpos : n + k ≠ 0 := fun h => by rw [h] at m0; exact m0 rfl
      have HLT := Lib.hid hlt
      have HML := Lib.hid (show n + k + 1 ≤ maxLen by have := HK.out; unfold maxLen; omega)
      have HMB := Lib.hid (show (n + k + 1) * 1 ≤ 140737488355328 by have := HK.out; omega)
      rcases HF.out with ⟨rfl, h0⟩ | ⟨g, cap, rfl⟩
      · exact absurd h0 hpos
      · have HAL := Lib.hid (HO.out.alloc (.cells #[.int .u8 0] 5 (0, 0)))
        obtain ⟨q, hq⟩ : ∃ q, n + k = q := ⟨_, rfl⟩
        rw [hq] at m1 HML HMB HAL HO ⊢
        have HQ := Lib.hid hq
        clear hm hlt m0 hpos hq HM hZ15 hn5
        go_wp2_with (at_builtin; refine wpList_append_own _ rfl (.tmp 7) (.tmp 8) 83 rfl _ 5 i8 (.int .u8 0) 1 1 Tryz.underlying83 hj0 hy0 hy1 hy2 rfl (by decide) _ _ _ rfl HAL.out ⟨wr.heap.size, 0, none⟩ 1 1 [.int .u8 0] rfl rfl (one_cell wr _ _) (one_one _ rfl) HML.out HMB.out (le_alloc hs0 _) ?_)
        intro v1 w1 h1 h2 h3
        have HB1 := Lib.hid (below_app2 HB.out hs0 _ _ _ _ _ HO.out h2)
        have HO1 := Lib.hid (show w1.ownsRow base 5 1 v1 (n + (k + 1)) (vls (l ++ List.replicate (k + 1) 0)) from by rw [zeros_app, vls_app, ← Nat.add_assoc, HQ.out]; exact h1)
        have HLEN := Lib.hid (show lenA v1 = q + 1 from by
          obtain ⟨g, cap, e, _⟩ := h1.form (by omega)
          rw [e]; rfl)
        clear h1 h2 h3 hs0
        go_wp2_with fail
        go_roundw
        case rel => exact ⟨k + 1, by have := HLT.out; have := HK.out; omega, HO1.out, HB1.out⟩
        case measure => rw [HLEN.out]; show n + 16 - (q + 1) < n + 16 - q; have := HQ.out; have := HK.out; have := HZ.out; have := HLT.out; omega

/-- The bytes of a length, as they are appended. -/
theorem nbs_next (m j : Nat) : nbs (j + 1) m = nbs j m ++ [UInt8.ofNat (m / 256 ^ j % 256)] := by
  rw [nbs, dg_succ, List.map_append]; rfl

set_option maxRecDepth 100000 in
set_option maxHeartbeats 2000000 in
theorem size_any (base n m : Nat) (v : Value) (l : List UInt8) (w : World) (hbase : base ≤ w.heap.size) (hn : n ≤ 200000) (hm : m ≤ 100000) (ho : w.ownsRow base 5 1 v n (vls l)) :
    Calls Tryz.prog 92 #[v, .int .i64 m] w fun e w' => Below base w w' ∧ ∃ r, e = .returned r ∧ w'.ownsRow base 5 1 r (n + 8) (vls (l ++ nbs 8 m)) := by
  obtain ⟨i8, hj0, hy0, hy1, hy2⟩ : ∃ i, Tryz.prog.info? 5 = some i ∧ i.zero = some (.int .u8 0) ∧ i.size = 1 ∧ i.bytes = 1 := ⟨_, rfl, rfl, rfl, rfl⟩
  have HO0 := Lib.hid (show w.ownsRow base 5 1 v (n + 0) (vls (l ++ nbs 0 m)) from by rw [show nbs 0 m = [] from rfl, List.append_nil]; exact ho)
  have HB0 := Lib.hid (Below.refl base w)
  have HBASE := Lib.hid hbase
  have HN := Lib.hid hn
  have HNB := Lib.hid (nbs_next m)
  have m1 : (m : Int) ≤ 100000 := by omega
  have m0 : (0 : Int) ≤ (m : Int) := by omega
  clear ho hbase hn hm
  go_enter Tryz.func92, Tryz.ntmps92
  go_wp2_with fail
  go_loopw [0, 6] (fun x i wr => ∃ j : Nat, j ≤ 8 ∧ i = .int .i64 j ∧ wr.ownsRow base 5 1 x (n + j) (vls (l ++ nbs j m)) ∧ Below base w wr) (fun _ i _ => 8 - (intOf i).toNat)
  case atStart => exact ⟨0, by omega, rfl, HO0.out, HB0.out⟩
  case round =>
    obtain ⟨j, hj, rfl, ho, hb⟩ := hrel
    have HO := Lib.hid ho
    have HB := Lib.hid hb
    have hs0 : base ≤ wr.heap.size := Nat.le_trans HBASE.out hb.size
    clear ho hb HO0 HB0
    by_cases hlt : j < 8
    · have j1 : (j : Int) < 8 := by omega
      have j0 : (0 : Int) ≤ (j : Int) := by omega
      have HLT := Lib.hid hlt
      have r8 : j = 0 ∨ j = 1 ∨ j = 2 ∨ j = 3 ∨ j = 4 ∨ j = 5 ∨ j = 6 ∨ j = 7 := by omega
      have hx := dig_lt 256 (by decide) m j
      have HNX := Lib.hid (HNB.out j)
      obtain ⟨d, hd⟩ : ∃ d, m / 256 ^ j % 256 = d := ⟨_, rfl⟩
      rw [hd] at hx HNX
      have HD := Lib.hid hd
      have HVB := Lib.hid (show valB (UInt8.ofNat d) = .int .u8 (d : Int) by rw [valB, UInt8.toNat_ofNat', show d % 2 ^ 8 = d by omega])
      have HML := Lib.hid (show n + j + 1 ≤ maxLen by have := HN.out; unfold maxLen; omega)
      have HMB := Lib.hid (show (n + j + 1) * 1 ≤ 140737488355328 by have := HN.out; omega)
      have HAL := Lib.hid (HO.out.alloc (.cells #[.int .u8 (d : Int)] 5 (0, 0)))
      clear hlt hj hd hx
      rcases r8 with h8 | h8 | h8 | h8 | h8 | h8 | h8 | h8
      · have rk : (8 : Int) * (j : Int) = 0 := by omega
        have vb : (m : Int) % 256 = (d : Int) := by have := HD.out; rw [h8, show (256 : Nat) ^ 0 = 1 by decide] at this; omega
        clear h8
        go_wp2_with (at_builtin; refine wpList_append_own _ rfl (.tmp 9) (.tmp 16) 83 rfl _ 5 i8 (.int .u8 0) 1 1 Tryz.underlying83 hj0 hy0 hy1 hy2 rfl (by decide) _ _ _ rfl HAL.out ⟨wr.heap.size, 0, none⟩ 1 1 [.int .u8 (d : Int)] rfl rfl (one_cell wr _ _) (one_one _ rfl) HML.out HMB.out (le_alloc hs0 _) ?_)
        intro v1 w1 h1 h2 h3
        have HB1 := Lib.hid (below_app2 HB.out hs0 _ _ _ _ _ HO.out h2)
        have HO1 := Lib.hid (show w1.ownsRow base 5 1 v1 (n + (j + 1)) (vls (l ++ nbs (j + 1) m)) from by rw [HNX.out, ← List.append_assoc, vls_app, HVB.out, ← Nat.add_assoc]; exact h1)
        clear h1 h2 h3 hs0 vb
        go_wp2_with fail
        go_roundw
        case rel => exact ⟨j + 1, HLT.out, by go_num, HO1.out, HB1.out⟩
        case measure => simp [intOf]; have := HLT.out; omega
      · have rk : (8 : Int) * (j : Int) = 8 := by omega
        have vb : (m : Int) / 256 % 256 = (d : Int) := by have := HD.out; rw [h8, show (256 : Nat) ^ 1 = 256 by decide] at this; omega
        clear h8
        go_wp2_with (at_builtin; refine wpList_append_own _ rfl (.tmp 9) (.tmp 16) 83 rfl _ 5 i8 (.int .u8 0) 1 1 Tryz.underlying83 hj0 hy0 hy1 hy2 rfl (by decide) _ _ _ rfl HAL.out ⟨wr.heap.size, 0, none⟩ 1 1 [.int .u8 (d : Int)] rfl rfl (one_cell wr _ _) (one_one _ rfl) HML.out HMB.out (le_alloc hs0 _) ?_)
        intro v1 w1 h1 h2 h3
        have HB1 := Lib.hid (below_app2 HB.out hs0 _ _ _ _ _ HO.out h2)
        have HO1 := Lib.hid (show w1.ownsRow base 5 1 v1 (n + (j + 1)) (vls (l ++ nbs (j + 1) m)) from by rw [HNX.out, ← List.append_assoc, vls_app, HVB.out, ← Nat.add_assoc]; exact h1)
        clear h1 h2 h3 hs0 vb
        go_wp2_with fail
        go_roundw
        case rel => exact ⟨j + 1, HLT.out, by go_num, HO1.out, HB1.out⟩
        case measure => simp [intOf]; have := HLT.out; omega
      · have rk : (8 : Int) * (j : Int) = 16 := by omega
        have vb : (m : Int) / 65536 = (d : Int) := by have := HD.out; rw [h8, show (256 : Nat) ^ 2 = 65536 by decide] at this; omega
        clear h8
        go_wp2_with (at_builtin; refine wpList_append_own _ rfl (.tmp 9) (.tmp 16) 83 rfl _ 5 i8 (.int .u8 0) 1 1 Tryz.underlying83 hj0 hy0 hy1 hy2 rfl (by decide) _ _ _ rfl HAL.out ⟨wr.heap.size, 0, none⟩ 1 1 [.int .u8 (d : Int)] rfl rfl (one_cell wr _ _) (one_one _ rfl) HML.out HMB.out (le_alloc hs0 _) ?_)
        intro v1 w1 h1 h2 h3
        have HB1 := Lib.hid (below_app2 HB.out hs0 _ _ _ _ _ HO.out h2)
        have HO1 := Lib.hid (show w1.ownsRow base 5 1 v1 (n + (j + 1)) (vls (l ++ nbs (j + 1) m)) from by rw [HNX.out, ← List.append_assoc, vls_app, HVB.out, ← Nat.add_assoc]; exact h1)
        clear h1 h2 h3 hs0 vb
        go_wp2_with fail
        go_roundw
        case rel => exact ⟨j + 1, HLT.out, by go_num, HO1.out, HB1.out⟩
        case measure => simp [intOf]; have := HLT.out; omega
      · have rk : (8 : Int) * (j : Int) = 24 := by omega
        have vb : (m : Int) / 16777216 = (d : Int) := by have := HD.out; rw [h8, show (256 : Nat) ^ 3 = 16777216 by decide] at this; omega
        clear h8
        go_wp2_with (at_builtin; refine wpList_append_own _ rfl (.tmp 9) (.tmp 16) 83 rfl _ 5 i8 (.int .u8 0) 1 1 Tryz.underlying83 hj0 hy0 hy1 hy2 rfl (by decide) _ _ _ rfl HAL.out ⟨wr.heap.size, 0, none⟩ 1 1 [.int .u8 (d : Int)] rfl rfl (one_cell wr _ _) (one_one _ rfl) HML.out HMB.out (le_alloc hs0 _) ?_)
        intro v1 w1 h1 h2 h3
        have HB1 := Lib.hid (below_app2 HB.out hs0 _ _ _ _ _ HO.out h2)
        have HO1 := Lib.hid (show w1.ownsRow base 5 1 v1 (n + (j + 1)) (vls (l ++ nbs (j + 1) m)) from by rw [HNX.out, ← List.append_assoc, vls_app, HVB.out, ← Nat.add_assoc]; exact h1)
        clear h1 h2 h3 hs0 vb
        go_wp2_with fail
        go_roundw
        case rel => exact ⟨j + 1, HLT.out, by go_num, HO1.out, HB1.out⟩
        case measure => simp [intOf]; have := HLT.out; omega
      · have rk : (8 : Int) * (j : Int) = 32 := by omega
        have vb : (m : Int) / 4294967296 = (d : Int) := by have := HD.out; rw [h8, show (256 : Nat) ^ 4 = 4294967296 by decide] at this; omega
        clear h8
        go_wp2_with (at_builtin; refine wpList_append_own _ rfl (.tmp 9) (.tmp 16) 83 rfl _ 5 i8 (.int .u8 0) 1 1 Tryz.underlying83 hj0 hy0 hy1 hy2 rfl (by decide) _ _ _ rfl HAL.out ⟨wr.heap.size, 0, none⟩ 1 1 [.int .u8 (d : Int)] rfl rfl (one_cell wr _ _) (one_one _ rfl) HML.out HMB.out (le_alloc hs0 _) ?_)
        intro v1 w1 h1 h2 h3
        have HB1 := Lib.hid (below_app2 HB.out hs0 _ _ _ _ _ HO.out h2)
        have HO1 := Lib.hid (show w1.ownsRow base 5 1 v1 (n + (j + 1)) (vls (l ++ nbs (j + 1) m)) from by rw [HNX.out, ← List.append_assoc, vls_app, HVB.out, ← Nat.add_assoc]; exact h1)
        clear h1 h2 h3 hs0 vb
        go_wp2_with fail
        go_roundw
        case rel => exact ⟨j + 1, HLT.out, by go_num, HO1.out, HB1.out⟩
        case measure => simp [intOf]; have := HLT.out; omega
      · have rk : (8 : Int) * (j : Int) = 40 := by omega
        have vb : (m : Int) / 1099511627776 = (d : Int) := by have := HD.out; rw [h8, show (256 : Nat) ^ 5 = 1099511627776 by decide] at this; omega
        clear h8
        go_wp2_with (at_builtin; refine wpList_append_own _ rfl (.tmp 9) (.tmp 16) 83 rfl _ 5 i8 (.int .u8 0) 1 1 Tryz.underlying83 hj0 hy0 hy1 hy2 rfl (by decide) _ _ _ rfl HAL.out ⟨wr.heap.size, 0, none⟩ 1 1 [.int .u8 (d : Int)] rfl rfl (one_cell wr _ _) (one_one _ rfl) HML.out HMB.out (le_alloc hs0 _) ?_)
        intro v1 w1 h1 h2 h3
        have HB1 := Lib.hid (below_app2 HB.out hs0 _ _ _ _ _ HO.out h2)
        have HO1 := Lib.hid (show w1.ownsRow base 5 1 v1 (n + (j + 1)) (vls (l ++ nbs (j + 1) m)) from by rw [HNX.out, ← List.append_assoc, vls_app, HVB.out, ← Nat.add_assoc]; exact h1)
        clear h1 h2 h3 hs0 vb
        go_wp2_with fail
        go_roundw
        case rel => exact ⟨j + 1, HLT.out, by go_num, HO1.out, HB1.out⟩
        case measure => simp [intOf]; have := HLT.out; omega
      · have rk : (8 : Int) * (j : Int) = 48 := by omega
        have vb : (m : Int) / 281474976710656 = (d : Int) := by have := HD.out; rw [h8, show (256 : Nat) ^ 6 = 281474976710656 by decide] at this; omega
        clear h8
        go_wp2_with (at_builtin; refine wpList_append_own _ rfl (.tmp 9) (.tmp 16) 83 rfl _ 5 i8 (.int .u8 0) 1 1 Tryz.underlying83 hj0 hy0 hy1 hy2 rfl (by decide) _ _ _ rfl HAL.out ⟨wr.heap.size, 0, none⟩ 1 1 [.int .u8 (d : Int)] rfl rfl (one_cell wr _ _) (one_one _ rfl) HML.out HMB.out (le_alloc hs0 _) ?_)
        intro v1 w1 h1 h2 h3
        have HB1 := Lib.hid (below_app2 HB.out hs0 _ _ _ _ _ HO.out h2)
        have HO1 := Lib.hid (show w1.ownsRow base 5 1 v1 (n + (j + 1)) (vls (l ++ nbs (j + 1) m)) from by rw [HNX.out, ← List.append_assoc, vls_app, HVB.out, ← Nat.add_assoc]; exact h1)
        clear h1 h2 h3 hs0 vb
        go_wp2_with fail
        go_roundw
        case rel => exact ⟨j + 1, HLT.out, by go_num, HO1.out, HB1.out⟩
        case measure => simp [intOf]; have := HLT.out; omega
      · have rk : (8 : Int) * (j : Int) = 56 := by omega
        have vb : (m : Int) / 72057594037927936 = (d : Int) := by have := HD.out; rw [h8, show (256 : Nat) ^ 7 = 72057594037927936 by decide] at this; omega
        clear h8
        go_wp2_with (at_builtin; refine wpList_append_own _ rfl (.tmp 9) (.tmp 16) 83 rfl _ 5 i8 (.int .u8 0) 1 1 Tryz.underlying83 hj0 hy0 hy1 hy2 rfl (by decide) _ _ _ rfl HAL.out ⟨wr.heap.size, 0, none⟩ 1 1 [.int .u8 (d : Int)] rfl rfl (one_cell wr _ _) (one_one _ rfl) HML.out HMB.out (le_alloc hs0 _) ?_)
        intro v1 w1 h1 h2 h3
        have HB1 := Lib.hid (below_app2 HB.out hs0 _ _ _ _ _ HO.out h2)
        have HO1 := Lib.hid (show w1.ownsRow base 5 1 v1 (n + (j + 1)) (vls (l ++ nbs (j + 1) m)) from by rw [HNX.out, ← List.append_assoc, vls_app, HVB.out, ← Nat.add_assoc]; exact h1)
        clear h1 h2 h3 hs0 vb
        go_wp2_with fail
        go_roundw
        case rel => exact ⟨j + 1, HLT.out, by go_num, HO1.out, HB1.out⟩
        case measure => simp [intOf]; have := HLT.out; omega
    · have j1 : ¬ (j : Int) < 8 := by omega
      have hj8 : j = 8 := by omega
      subst hj8
      clear hlt hj
      rcases own_form HO.out with ⟨_, h0⟩ | ⟨g, cap, rfl⟩
      · exact absurd h0 (by omega)
      · go_wp2_with fail
        go_ret
        exact ⟨HB.out, _, rfl, HO.out⟩
end Go.Proofs.YtfckjilhkdlpfaaGreatDoor

namespace Go.Proofs.YtfckjilhkdlpfaaGreatDoor
open Go.RowKit MS
set_option maxRecDepth 100000 in
theorem wpList_make_cap {w : World} {ops : Array Oper} {rest : List Oper} {o : Oper} {a : Act} {Q : Exit → Act → World → Prop} (hgd : o.guard = none) (x y : Operand) (ho : o.op = .makeSlice 83 x y) (N : Nat) (yi : Int)
    (hx : a.eval x = .int .i64 0) (hy : a.eval y = .int .i64 yi) (hyN : yi = N) (hN : N ≤ 1000000)
    (h : ∀ w', w'.ownsRow w.heap.size 5 1 (.slice (some ⟨w.heap.size, 0, none⟩) 0 N) 0 (vls []) → Below w.heap.size w w' → wpList Tryz.prog ops Q rest (a.put o.dst (.slice (some ⟨w.heap.size, 0, none⟩) 0 N)) w') : wpList Tryz.prog ops Q (o :: rest) a w := by
  subst hyN
  refine wpList_plain hgd fun K hK => ?_
  obtain ⟨i8, hj0, hy0, hy1, hy2⟩ : ∃ i, Tryz.prog.info? 5 = some i ∧ i.zero = some (.int .u8 0) ∧ i.size = 1 ∧ i.bytes = 1 := ⟨_, rfl, rfl, rfl, rfl⟩
  have hrun := run_make (P := Tryz.prog) w 83 5 i8 (.int .u8 0) Tryz.underlying83 hj0 hy0 .i64 .i64 (0 : Int) (N : Int) (by omega) (by omega) (by rw [hy2]; omega) (by omega)
  rw [hy1] at hrun
  simp only [Int.toNat_natCast, Int.toNat_zero, Nat.mul_one] at hrun
  have hz : madeCells (Value.int .u8 0).cells N = (vls (List.replicate N 0)).toArray := by
    apply Array.toList_inj.1
    exact made_u8 N
  rw [hz] at hrun
  have h' := h (w.alloc (.cells (vls (List.replicate N 0)).toArray 5 (0, 0)))
    ⟨rfl, .inr ⟨w.heap.size, N, _, rfl, Nat.le_refl _, (MapKept.heap_alloc w _).1, Nat.zero_le _, by unfold maxLen; omega, by simp [vls], rfl⟩⟩ ((Below.refl _ _).alloc (Nat.le_refl _) _)
  unfold Oper.wp execOp
  simp only [ho, hx, hy, Sem.run_bind, Sem.run_pure, Result.andThen_ok, hrun]
  exact hK _ _ h'
theorem below_app3 {w0 wr w' : World} {base : Nat} (hb : Below base w0 wr) (hbase : base ≤ wr.heap.size) (v : Value) (n : Nat) (e : TypeId) (xs : List Value) (ho : wr.ownsRow base e 1 v n xs) (hg : wr.grownBy w' v.ownBlock) : Below base w0 w' :=
  hb.grown hg hbase (fun m hm => (ho.lt m hm).1)
theorem alZ_add (a b : Nat) (h : a % 16 = 0) : alZ (a + b) = alZ b := by unfold alZ; omega
theorem wv0 : wv 0 = 0 := rfl
theorem wv1 : wv 1 = 1 := rfl

set_option maxRecDepth 100000 in
set_option maxHeartbeats 2000000 in
theorem atag_yes (k n wi text : ByteArray) (w : World) (hk : k.size = 32) (hn : n.size = 12) (hwi : wi.size ≤ 20000) (htx : text.size ≤ 20000) :
    Calls Tryz.prog 62 #[.string k, .string n, .string wi, .string text] w fun e w' => e = .returned (.tuple #[.string (tagA k n wi text), .bool true]) ∧ Below w.heap.size w w' := by
  have B := Lib.hid (fun w => block_yes k n 0 w hk hn)
  rw [wv0] at B
  have lw := length_ls wi
  have lt := length_ls text
  have hT : (tagL (ls wi) (ls text)).length = wi.size + alZ wi.size + (text.size + alZ text.size) + 16 := by
    rw [tagL, List.length_append, List.length_append, List.length_append, length_alignL, length_alignL, length_nbs, length_nbs, lw, lt]
  have hz1 := alZ_le wi.size
  have hz2 := alZ_le text.size
  have PT := Lib.hid (fun w => tag_yes ((blkB (iw k n 0)).extract 0 32) (bs (tagL (ls wi) (ls text))) w (by rw [ByteArray.size_extract, size_blkB]; rfl) (by rw [size_bs, hT]; omega))
  have HTA := Lib.hid (show tagA k n wi text = tagB ((blkB (iw k n 0)).extract 0 32) (bs (tagL (ls wi) (ls text))) from rfl)
  rw [← HTA.out] at PT
  have hbz : ((blkB (iw k n 0)).size : Int) = 64 := by rw [size_blkB]; rfl
  generalize tagA k n wi text = R at *
  generalize blkB (iw k n 0) = bk at *
  have HT := Lib.hid hT
  have HAM := Lib.hid (align_mod (ls wi))
  have HAA := Lib.hid (fun h => align_app (alignL (ls wi)) (ls text) h)
  have HAL := Lib.hid (length_alignL (ls wi))
  have HTL := Lib.hid (show tagL (ls wi) (ls text) = alignL (ls wi) ++ alignL (ls text) ++ nbs 8 wi.size ++ nbs 8 text.size from by rw [tagL, lw, lt])
  have HLW := Lib.hid lw
  have HLT := Lib.hid lt
  have HWI := Lib.hid hwi
  have HTX := Lib.hid htx
  have HZ1 := Lib.hid hz1
  have HZ2 := Lib.hid hz2
  have s1 : (wi.size : Int) ≤ 20000 := by omega
  have s2 : (text.size : Int) ≤ 20000 := by omega
  obtain ⟨N, hN⟩ : ∃ N, wi.size + text.size + 48 = N := ⟨_, rfl⟩
  have qN : (wi.size : Int) + (text.size : Int) + 48 = (N : Int) := by omega
  have HN := Lib.hid (show N ≤ 1000000 by omega)
  clear hk hn lw lt hT hz1 hz2 hwi htx HTA hN
  go_enter Tryz.func62, Tryz.ntmps62
  go_wp2_with fail
  refine (B.out _).mono ?_
  rintro e w1 ⟨rfl, hb1⟩
  have B1 := Lib.hid hb1
  clear hb1 B
  go_wp2_with (with_reducible refine wpList_make_cap rfl (.const (.int .i64 0)) (.tmp 26) rfl N (N : Int) rfl rfl rfl HN.out ?_)
  intro w2 ho2 hb2
  have HO2 := Lib.hid ho2
  have B2 := Lib.hid (B1.out.trans (hb2.mono B1.out.size))
  have HS2 := Lib.hid hb2.size
  generalize hg : w1.heap.size = g at *
  have HGW := Lib.hid (show w.heap.size ≤ g by rw [← hg]; exact B1.out.size)
  clear ho2 hb2 hg qN
  have HH1 := Lib.hid (show 0 + wi.size ≤ 1000000 by have := HWI.out; omega)
  go_wp2_with (with_reducible refine wpList_append_strP rfl (.tmp 28) (.tmp 29) rfl g (.slice (some ⟨g, 0, none⟩) 0 N) 0 [] rfl HO2.out wi rfl HH1.out HS2.out ?_)
  intro v3 w3 h1 h2
  have h1 : w3.ownsRow g 5 1 v3 wi.size (vls (ls wi)) := by simpa using h1
  have B3 := Lib.hid (B2.out.trans ((below_app3 (Below.refl g w2) HS2.out _ _ _ _ HO2.out h2).mono HGW.out))
  have HS3 := Lib.hid (Nat.le_trans HS2.out h2.size)
  have HO3 := Lib.hid h1
  clear h1 h2
  go_wp2_with fail
  refine (align_any g wi.size v3 (ls wi) _ HS3.out HLW.out (by have := HWI.out; omega) HO3.out).mono ?_
  rintro e w4 ⟨hb4, r4, rfl, ho4⟩
  have B4 := Lib.hid (B3.out.trans (hb4.mono HGW.out))
  have HS4 := Lib.hid (Nat.le_trans HS3.out hb4.size)
  have HO4 := Lib.hid ho4
  obtain ⟨al, hal⟩ : ∃ al, wi.size + alZ wi.size = al := ⟨_, rfl⟩
  rw [hal] at HO4 ho4
  have HALE := Lib.hid hal
  have HALB := Lib.hid (show al ≤ 20015 by rw [← hal]; have := HWI.out; have := HZ1.out; omega)
  clear hb4 HO2 B2 HS2 B3 HS3
  have HF4 := Lib.hid (own_form ho4)
  have HH2 := Lib.hid (show al + text.size ≤ 1000000 by have := HALB.out; have := HTX.out; omega)
  clear ho4 hal
  go_wp2_with (with_reducible refine wpList_append_strP rfl (.tmp 32) (.tmp 33) rfl g r4 al (alignL (ls wi)) rfl HO4.out text rfl HH2.out HS4.out ?_)
  intro v5 w5 h1 h2
  have B5 := Lib.hid (B4.out.trans ((below_app3 (Below.refl g w4) HS4.out _ _ _ _ HO4.out h2).mono HGW.out))
  have HS5 := Lib.hid (Nat.le_trans HS4.out h2.size)
  have HL5 := Lib.hid (show (alignL (ls wi) ++ ls text).length = al + text.size by rw [List.length_append, HAL.out, HLW.out, HLT.out, HALE.out])
  have HO5 := Lib.hid h1
  clear h1 h2
  go_wp2_with fail
  refine (align_any g (al + text.size) v5 (alignL (ls wi) ++ ls text) _ HS5.out HL5.out (by have := HALB.out; have := HTX.out; omega) HO5.out).mono ?_
  rintro e w6 ⟨hb6, r6, rfl, ho6⟩
  rw [HAA.out HAM.out, alZ_add al text.size (by have := HAM.out; rw [HAL.out, HLW.out, HALE.out] at this; exact this)] at ho6
  have B6 := Lib.hid (B5.out.trans (hb6.mono HGW.out))
  have HS6 := Lib.hid (Nat.le_trans HS5.out hb6.size)
  obtain ⟨q, hq⟩ : ∃ q, al + text.size + alZ text.size = q := ⟨_, rfl⟩
  rw [hq] at ho6
  have HO6 := Lib.hid ho6
  have HQ := Lib.hid hq
  have HQB := Lib.hid (show q ≤ 60000 by rw [← hq]; have := HALB.out; have := HTX.out; have := HZ2.out; omega)
  clear hb6 ho6 hq HO4 B4 HS4 B5 HS5 HF4
  go_wp2_with fail
  refine (size_any g q wi.size r6 (alignL (ls wi) ++ alignL (ls text)) _ HS6.out (by have := HQB.out; omega) (by have := HWI.out; omega) HO6.out).mono ?_
  rintro e w7 ⟨hb7, r7, rfl, ho7⟩
  have B7 := Lib.hid (B6.out.trans (hb7.mono HGW.out))
  have HS7 := Lib.hid (Nat.le_trans HS6.out hb7.size)
  have HO7 := Lib.hid ho7
  clear hb7 ho7 HO6 B6 HS6
  go_wp2_with fail
  refine (size_any g (q + 8) text.size r7 _ _ HS7.out (by have := HQB.out; omega) (by have := HTX.out; omega) HO7.out).mono ?_
  rintro e w8 ⟨hb8, r8, rfl, ho8⟩
  rw [← HTL.out] at ho8
  have B8 := Lib.hid (B7.out.trans (hb8.mono HGW.out))
  obtain ⟨g8, c8, rfl, -, -⟩ := ho8.form (by omega)
  have HL8 := Lib.hid (show (tagL (ls wi) (ls text)).length = q + 8 + 8 by rw [HT.out, ← HQ.out, ← HALE.out]; omega)
  have HO8 := Lib.hid ho8
  clear hb8 ho8 HO7 B7 HS7
  generalize tagL (ls wi) (ls text) = TL at *
  generalize q + 8 + 8 = q8 at *
  go_upto_region 9 with fail
  have hcv : ∀ p : BW w8, (convert 83 9 (.slice (some ⟨g8, 0, none⟩) q8 c8)).run Tryz.prog p.1 = .ok (.string (bs TL)) p.1 := fun p => conv_out TL q8 HL8.out (ownsRow_on HO8.out p.2)
  obtain ⟨W8, rfl⟩ : ∃ W8 : World, W8 = w8 := ⟨_, rfl⟩
  refine wp_region_below (by kernel_rfl) (by kernel_rfl) ?_
  repeat (go_big_quiet_step (fail))
  go_big_quiet_step (exact calls_below (PT.out _))
  repeat (go_big_quiet_step (fail))
  refine wpQuiet_nil ?_
  rintro _ ⟨p, rfl⟩
  have B9 := Lib.hid (B8.out.trans (p.2.mono B8.out.size))
  clear hcv
  generalize p.1 = w9 at B9 ⊢
  go_wp2_with fail
  go_ret2
  exact ⟨rfl, B9.out⟩
end Go.Proofs.YtfckjilhkdlpfaaGreatDoor

namespace Go.Proofs.YtfckjilhkdlpfaaGreatDoor
open Go.RowKit MS
theorem aseal_no (k n wi s : ByteArray) (w : World) (h : k.size ≠ 32 ∨ n.size ≠ 12) :
    Calls Tryz.prog 54 #[.string k, .string n, .string wi, .string s] w fun e w' => e = .returned (.tuple #[.string ⟨#[]⟩, .int .i64 1]) ∧ Below w.heap.size w w' := by
  have B := Lib.hid (fun w => turn_no k n 1 s h w)
  clear h
  go_enter Tryz.func54, Tryz.ntmps54
  go_wp2_with fail
  refine (B.out _).mono ?_
  rintro e w1 ⟨rfl, hb1⟩
  go_wp2_with fail
  go_ret2
  exact ⟨rfl, hb1⟩

set_option maxRecDepth 100000 in
set_option maxHeartbeats 1000000 in
theorem aseal_yes (k n wi s : ByteArray) (w : World) (hk : k.size = 32) (hn : n.size = 12) (hwi : wi.size ≤ 20000) (hs : s.size ≤ 20000) :
    Calls Tryz.prog 54 #[.string k, .string n, .string wi, .string s] w fun e w' => e = .returned (.tuple #[.string (sealA k n wi s), .int .i64 0]) ∧ Below w.heap.size w w' := by
  have T := Lib.hid (fun w => turn_yes k n 1 s w hk hn)
  rw [wv1, show bs (trn (ls s) (ks k n 1)) = trnA k n s from rfl] at T
  have G := Lib.hid (fun w => atag_yes k n wi (trnA k n s) w hk hn hwi (by rw [size_trnA]; exact hs))
  have HS := Lib.hid (show sealA k n wi s = trnA k n s ++ tagA k n wi (trnA k n s) from rfl)
  have s1 : ((tagA k n wi (trnA k n s)).size : Int) = 16 := by rw [size_tagA]; rfl
  have s2 : ((trnA k n s).size : Int) ≤ 20000 := by rw [size_trnA]; omega
  rw [HS.out]
  generalize tagA k n wi (trnA k n s) = t at *
  generalize trnA k n s = x at *
  clear hk hn hwi hs HS
  go_enter Tryz.func54, Tryz.ntmps54
  go_wp2_with fail
  refine (T.out _).mono ?_
  rintro e w1 ⟨rfl, hb1⟩
  have B1 := Lib.hid hb1
  clear hb1
  go_wp2_with fail
  refine (G.out _).mono ?_
  rintro e w2 ⟨rfl, hb2⟩
  have B2 := Lib.hid (B1.out.trans (hb2.mono B1.out.size))
  clear hb2
  go_wp2_with fail
  go_ret2
  exact ⟨rfl, B2.out⟩

set_option maxRecDepth 100000 in
set_option maxHeartbeats 1000000 in
theorem aopen_no (k n wi box : ByteArray) (w : World) (h : k.size ≠ 32 ∨ n.size ≠ 12) :
    Calls Tryz.prog 36 #[.string k, .string n, .string wi, .string box] w fun e w' => e = .returned (.tuple #[.string ⟨#[]⟩, .int .i64 1]) ∧ Below w.heap.size w w' := by
  by_cases h1 : k.size = 32
  · have t1 : ((k.size : Int) != 32) = false := by simp; omega
    have t2 : ((n.size : Int) != 12) = true := by simp; omega
    clear h h1
    go_enter Tryz.func36, Tryz.ntmps36
    go_wp2_with fail
    go_ret2
    exact ⟨rfl, Below.refl _ _⟩
  · have t1 : ((k.size : Int) != 32) = true := by simp; omega
    clear h h1
    go_enter Tryz.func36, Tryz.ntmps36
    go_wp2_with fail
    go_ret2
    exact ⟨rfl, Below.refl _ _⟩

/-- What Open hands back. -/
def openV (o : Option ByteArray) : Value := match o with
  | some s => .tuple #[.string s, .int .i64 0]
  | none => .tuple #[.string ⟨#[]⟩, .int .i64 7]

set_option maxRecDepth 100000 in
set_option maxHeartbeats 2000000 in
theorem aopen_any (k n wi box : ByteArray) (w : World) (hk : k.size = 32) (hn : n.size = 12) (hwi : wi.size ≤ 20000) (hs : box.size ≤ 20000) :
    Calls Tryz.prog 36 #[.string k, .string n, .string wi, .string box] w fun e w' => e = .returned (openV (openA k n wi box)) ∧ Below w.heap.size w w' := by
  have t1 : ((k.size : Int) != 32) = false := by simp; omega
  have t2 : ((n.size : Int) != 12) = false := by simp; omega
  by_cases h16 : box.size < 16
  · have HO := Lib.hid (show openV (openA k n wi box) = .tuple #[.string ⟨#[]⟩, .int .i64 7] by rw [openA, if_pos h16]; rfl)
    have q1 : (box.size : Int) < 16 := by omega
    rw [HO.out]
    clear hk hn hwi hs h16
    go_enter Tryz.func36, Tryz.ntmps36
    go_wp2_with fail
    go_ret2
    exact ⟨rfl, Below.refl _ _⟩
  · have q1 : ¬ (box.size : Int) < 16 := by omega
    have HO := Lib.hid (show openA k n wi box = if tagA k n wi (box.extract 0 (box.size - 16)) = box.extract (box.size - 16) box.size then some (trnA k n (box.extract 0 (box.size - 16))) else none by rw [openA, if_neg h16])
    obtain ⟨m, hm⟩ : ∃ m, box.size - 16 = m := ⟨_, rfl⟩
    rw [hm] at HO
    have hx : (box.extract 0 m).size = m := by rw [ByteArray.size_extract]; omega
    have T := Lib.hid (fun w => turn_yes k n 1 (box.extract 0 m) w hk hn)
    rw [wv1, show bs (trn (ls (box.extract 0 m)) (ks k n 1)) = trnA k n (box.extract 0 m) from rfl] at T
    have G := Lib.hid (fun w => atag_yes k n wi (box.extract 0 m) w hk hn hwi (by omega))
    have S := Lib.hid (fun w => same_any (tagA k n wi (box.extract 0 m)) (box.extract m box.size) w (by rw [size_tagA]; decide))
    have e1 : IntKind.i64.wrap ((box.size : Int) - 16) = (m : Int) := by rw [IntWalk.i64_in _ (by omega)]; omega
    have e2 : (0 : Int) ≤ (m : Int) := by omega
    have e3 : (m : Int) ≤ (box.size : Int) := by omega
    have e4 : (box.size : Int) ≤ 20000 := by omega
    generalize trnA k n (box.extract 0 m) = x at *
    clear hk hn hwi hs h16 hm hx
    go_enter Tryz.func36, Tryz.ntmps36
    go_upto_region 5 with fail
    go_quiet (fail)
    have HB0 := Lib.hid (below_drewN (Below.refl w.heap.size w) nq)
    generalize w.drewN nq = w0 at HB0 ⊢
    clear e1
    go_wp2_with fail
    refine (G.out _).mono ?_
    rintro e w1 ⟨rfl, hb1⟩
    have B1 := Lib.hid (HB0.out.trans (hb1.mono HB0.out.size))
    clear hb1
    go_wp2_with fail
    refine (S.out _).mono ?_
    rintro e w2 ⟨rfl, hb2⟩
    have B2 := Lib.hid (B1.out.trans (hb2.mono B1.out.size))
    clear hb2
    by_cases ht : tagA k n wi (box.extract 0 m) = box.extract m box.size
    · rw [decide_eq_true ht]
      have HO2 := Lib.hid (show openV (openA k n wi box) = .tuple #[.string x, .int .i64 0] by rw [HO.out, if_pos ht]; rfl)
      clear ht
      go_wp2_with fail
      refine (T.out _).mono ?_
      rintro e w3 ⟨rfl, hb3⟩
      have B3 := Lib.hid (B2.out.trans (hb3.mono B2.out.size))
      clear hb3
      go_wp2_with fail
      go_ret2
      exact ⟨by rw [HO2.out]; rfl, B3.out⟩
    · rw [decide_eq_false ht]
      have HO2 := Lib.hid (show openV (openA k n wi box) = .tuple #[.string ⟨#[]⟩, .int .i64 7] by rw [HO.out, if_neg ht]; rfl)
      clear ht
      go_wp2_with fail
      go_ret2
      exact ⟨by rw [HO2.out]; rfl, B2.out⟩
end Go.Proofs.YtfckjilhkdlpfaaGreatDoor

namespace Go.Proofs.YtfckjilhkdlpfaaGreatDoor
open Go.RowKit MS
def evs (l : List Nat) : List Value := l.map (fun n => .int .i64 ((n : Nat) : Int))
theorem evs_app (l : List Nat) (n : Nat) : evs (l ++ [n]) = evs l ++ [.int .i64 ((n : Nat) : Int)] := by simp [evs]
/-- A slice of n digits of u. -/
def ES (w : World) (base : Nat) (v : Value) (n u : Nat) : Prop := w.ownsRow base 3 1 v n (evs (dgn 256 n u)) ∧ u < 256 ^ n ∧ 0 < n ∧ n ≤ 100
theorem ES.on {w w' : World} {base n u : Nat} {v : Value} (h : ES w base v n u) (hb : Below w.heap.size w w') : ES w' base v n u := ⟨ownsRow_on h.1 hb, h.2⟩
theorem ES.form {w : World} {base n u : Nat} {v : Value} (h : ES w base v n u) : ∃ g cap, v = .slice (some ⟨g, 0, none⟩) n cap ∧ base ≤ g ∧ g < w.heap.size := h.1.form h.2.2.1
theorem ES.base {w : World} {base base' n u : Nat} {v : Value} (h : ES w base v n u) (hb : base' ≤ base) : ES w base' v n u := by
  refine ⟨⟨h.1.1, ?_⟩, h.2⟩
  rcases h.1.2 with h1 | ⟨g, cap, cur, h1, h2, h3⟩
  · exact .inl h1
  · exact .inr ⟨g, cap, cur, h1, Nat.le_trans hb h2, h3⟩
theorem ES.cell {w : World} {base g cap n u : Nat} (h : ES w base (.slice (some ⟨g, 0, none⟩) n cap) n u) (i : Nat) (hi : i < n) : w.cell? ⟨g, i, none⟩ = some (.int .i64 ((u / 256 ^ i % 256 : Nat) : Int)) := by
  rw [h.1.cellAt i (by omega), evs, List.getElem?_map, dg_get _ _ _ _ hi]
  rfl
theorem ES.cells {w : World} {base g cap n u : Nat} (h : ES w base (.slice (some ⟨g, 0, none⟩) n cap) n u) : ∀ w', Below w.heap.size w w' → ∀ i, i < n → w'.cell? ⟨g, i, none⟩ = some (.int .i64 ((u / 256 ^ i % 256 : Nat) : Int)) :=
  fun _ hb i hi => (h.on hb).cell i hi

theorem cry_topE (u v k : Nat) (hu : u < 256 ^ k) (hv : v < 256 ^ k) : cry 256 u v (k + 1) = 0 := by
  unfold cry
  rw [Nat.pow_succ]
  generalize 256 ^ k = X at *
  rw [Nat.mod_eq_of_lt (by omega), Nat.mod_eq_of_lt (by omega), Nat.div_eq_of_lt (by omega)]
/-- What add has gathered. -/
structure EAd (w0 : World) (u v : Nat) (x : Value) (j : Nat) (w : World) : Prop where
  own : w.ownsRow w0.heap.size 3 1 x j (evs (dgn 256 j (u + v)))
  bel : Below w0.heap.size w0 w

set_option maxRecDepth 1000000 in
set_option maxHeartbeats 2000000 in
theorem padd_any (n m u v : Nat) (va vb : Value) (ba bb : Nat) (w : World) (ha : ES w ba va n u) (hb : ES w bb vb m v) :
    Calls Tryz.prog 117 #[va, vb] w fun e w' => Below w.heap.size w w' ∧ ∃ r k, e = .returned r ∧ n ≤ k ∧ m ≤ k ∧ k ≤ max n m + 1 ∧ u + v < 256 ^ k ∧ w'.ownsRow w.heap.size 3 1 r k (evs (dgn 256 k (u + v))) := by
  obtain ⟨i0, hi, hz0, hz1, hz2⟩ : ∃ i, Tryz.prog.info? 3 = some i ∧ i.zero = some (.int .i64 0) ∧ i.size = 1 ∧ i.bytes = 8 := ⟨_, rfl, rfl, rfl, rfl⟩
  obtain ⟨ga, ca, rfl, -, -⟩ := ha.form
  obtain ⟨gb, cb, rfl, -, -⟩ := hb.form
  have HA := Lib.hid ha.cells
  have HB := Lib.hid hb.cells
  have HN := Lib.hid ha.2
  have HM := Lib.hid hb.2
  have hown0 : w.ownsRow w.heap.size 3 1 (.slice none 0 0) 0 (evs (dgn 256 0 (u + v))) := World.ownsRow_nil _ _ _ _
  clear ha hb
  go_enter Tryz.func117, Tryz.ntmps117
  go_wp2_with fail
  go_loopw [5, 6, 7] (fun x c i wr => ∃ j : Nat, j ≤ max n m + 1 ∧ i = .int .i64 j ∧ c = .int .i64 ((cry 256 u v j : Nat) : Int) ∧ EAd w u v x j wr) (fun _ _ i _ => 300 - (intOf i).toNat)
  case atStart => exact ⟨0, by omega, rfl, by rw [cry_zero]; rfl, hown0, Below.refl _ _⟩
  case round =>
    obtain ⟨j, hj, rfl, rfl, hr⟩ := hrel
    have HOWN := Lib.hid hr.own
    have HBL := Lib.hid hr.bel
    have HJ := Lib.hid hj
    clear hr hown0 hj
    -- ROUND
    have HCZ := Lib.hid (show j = max n m + 1 → cry 256 u v j = 0 from fun e => by
      rw [e]
      exact cry_topE _ _ _ (Nat.lt_of_lt_of_le HN.out.1 (Nat.pow_le_pow_right (by decide) (Nat.le_max_left n m))) (Nat.lt_of_lt_of_le HM.out.1 (Nat.pow_le_pow_right (by decide) (Nat.le_max_right n m))))
    have hc1 := cry_le 256 u v j (by decide)
    have hD := add_digit 256 u v j (by decide)
    have hC := add_carry 256 u v j (by decide)
    have hx := dig_lt 256 (by decide) u j
    have hy := dig_lt 256 (by decide) v j
    have hx0 := Lib.hid (show n ≤ j → u / 256 ^ j % 256 = 0 from fun h => dig_zero HN.out.1 (by decide) h)
    have hy0 := Lib.hid (show m ≤ j → v / 256 ^ j % 256 = 0 from fun h => dig_zero HM.out.1 (by decide) h)
    have hend := Lib.hid (show n ≤ j → m ≤ j → cry 256 u v j = 0 → u + v < 256 ^ j from fun h1 h2 h3 => add_ends HN.out.1 HM.out.1 (by decide) h1 h2 h3)
    have hS := dg_succ 256 j (u + v)
    rw [hD] at hS
    have CA := Lib.hid (fun h => HA.out wr HBL.out j h)
    have CB := Lib.hid (fun h => HB.out wr HBL.out j h)
    generalize u / 256 ^ j % 256 = x at *
    generalize v / 256 ^ j % 256 = y at *
    generalize cry 256 u v j = c at *
    have HNEXT := Lib.hid (show ∀ (x1 : Value) (w1 : World), w1.ownsRow w.heap.size 3 1 x1 (j + 1) (evs (dgn 256 j (u + v)) ++ [.int .i64 (((c + x + y : Nat) : Int) % 256)]) → w1.ownsRow w.heap.size 3 1 x1 (j + 1) (evs (dgn 256 (j + 1) (u + v))) from by
      intro x1 w1 h
      rw [hS, evs_app, Int.natCast_emod]
      exact h)
    have HC := Lib.hid hC
    clear hD hC hS
    have jn : (0 : Int) ≤ j := Int.natCast_nonneg j
    have jb : (j : Int) ≤ 200 := by have := HJ.out; have := HN.out.2.2; have := HM.out.2.2; omega
    have HML := Lib.hid (show j + 1 ≤ maxLen by have := HJ.out; have := HN.out.2.2; have := HM.out.2.2; unfold maxLen; omega)
    have HMB := Lib.hid (show (j + 1) * 8 ≤ 140737488355328 by have := HJ.out; have := HN.out.2.2; have := HM.out.2.2; omega)
    by_cases h1 : j < n
    · have j1 : (j : Int) < n := by omega
      have HLT := Lib.hid h1
      by_cases h2 : j < m
      · have j2 : (j : Int) < m := by omega
        have HGO := Lib.hid (show j < max n m + 1 by have := HLT.out; omega)
        have ca := CA.out (by omega)
        have cb := CB.out (by omega)
        obtain ⟨S, hSS⟩ : ∃ S : Nat, S = c + x + y := ⟨_, rfl⟩
        rw [← hSS] at HNEXT HC
        have qs : (c : Int) + (x : Int) + (y : Int) = (S : Int) := by omega
        have s1 : (S : Int) < 200000 := by omega
        have s0 : (0 : Int) ≤ (S : Int) := by omega
        have c0 : (0 : Int) ≤ (c : Int) := by omega
        have c1 : (c : Int) ≤ 1 := by omega
        have b1 : (x : Int) < 256 := by omega
        have b0 : (0 : Int) ≤ (x : Int) := by omega
        have d1 : (y : Int) < 256 := by omega
        have d0 : (0 : Int) ≤ (y : Int) := by omega
        clear hSS hx hy hc1
        have HAL := Lib.hid (HOWN.out.alloc (.cells #[.int .i64 ((S : Int) % 256)] 3 (0, 0)))
        have hs0 : _ ≤ wr.heap.size := HBL.out.size
        go_wp2_with (at_builtin; refine wpList_append_own _ rfl (.tmp 46) (.tmp 49) 105 rfl _ 3 i0 (.int .i64 0) 1 8 Tryz.underlying105 hi hz0 hz1 hz2 rfl (by decide) _ _ _ rfl HAL.out ⟨wr.heap.size, 0, none⟩ 1 1 [.int .i64 ((S : Int) % 256)] rfl rfl (one_cell wr _ _) (one_one _ rfl) HML.out HMB.out (le_alloc hs0 _) ?_)
        intro v1 w1 h1 h2 h3
        have HB1 := Lib.hid (below_app HBL.out _ _ _ _ _ HOWN.out h2)
        have HO1 := Lib.hid (HNEXT.out _ _ h1)
        clear h1 h2 h3 hs0
        go_wp2_with fail
        go_roundw
        case rel => exact ⟨j + 1, by have := HGO.out; omega, by go_num, by rw [HC.out]; go_num, HO1.out, HB1.out⟩
        case measure => simp [intOf]; have := HGO.out; have := HN.out.2.2; have := HM.out.2.2; omega
      · have j2 : ¬ (j : Int) < m := by omega
        have HGO := Lib.hid (show j < max n m + 1 by have := HLT.out; omega)
        have y0 : y = 0 := hy0.out (by omega)
        subst y0
        have ca := CA.out (by omega)
        obtain ⟨S, hSS⟩ : ∃ S : Nat, S = c + x + 0 := ⟨_, rfl⟩
        rw [← hSS] at HNEXT HC
        have qs : (c : Int) + (x : Int) = (S : Int) := by omega
        have s1 : (S : Int) < 200000 := by omega
        have s0 : (0 : Int) ≤ (S : Int) := by omega
        have c0 : (0 : Int) ≤ (c : Int) := by omega
        have c1 : (c : Int) ≤ 1 := by omega
        have b1 : (x : Int) < 256 := by omega
        have b0 : (0 : Int) ≤ (x : Int) := by omega
        clear hSS hx hy hc1
        have HAL := Lib.hid (HOWN.out.alloc (.cells #[.int .i64 ((S : Int) % 256)] 3 (0, 0)))
        have hs0 : _ ≤ wr.heap.size := HBL.out.size
        go_wp2_with (at_builtin; refine wpList_append_own _ rfl (.tmp 46) (.tmp 49) 105 rfl _ 3 i0 (.int .i64 0) 1 8 Tryz.underlying105 hi hz0 hz1 hz2 rfl (by decide) _ _ _ rfl HAL.out ⟨wr.heap.size, 0, none⟩ 1 1 [.int .i64 ((S : Int) % 256)] rfl rfl (one_cell wr _ _) (one_one _ rfl) HML.out HMB.out (le_alloc hs0 _) ?_)
        intro v1 w1 h1 h2 h3
        have HB1 := Lib.hid (below_app HBL.out _ _ _ _ _ HOWN.out h2)
        have HO1 := Lib.hid (HNEXT.out _ _ h1)
        clear h1 h2 h3 hs0
        go_wp2_with fail
        go_roundw
        case rel => exact ⟨j + 1, by have := HGO.out; omega, by go_num, by rw [HC.out]; go_num, HO1.out, HB1.out⟩
        case measure => simp [intOf]; have := HGO.out; have := HN.out.2.2; have := HM.out.2.2; omega
    · have j1 : ¬ (j : Int) < n := by omega
      by_cases h2 : j < m
      · have j2 : (j : Int) < m := by omega
        have HLT := Lib.hid h2
        have HGO := Lib.hid (show j < max n m + 1 by have := HLT.out; omega)
        have x0 : x = 0 := hx0.out (by omega)
        subst x0
        have cb := CB.out (by omega)
        obtain ⟨S, hSS⟩ : ∃ S : Nat, S = c + 0 + y := ⟨_, rfl⟩
        rw [← hSS] at HNEXT HC
        have qs : (c : Int) + (y : Int) = (S : Int) := by omega
        have s1 : (S : Int) < 200000 := by omega
        have s0 : (0 : Int) ≤ (S : Int) := by omega
        have c0 : (0 : Int) ≤ (c : Int) := by omega
        have c1 : (c : Int) ≤ 1 := by omega
        have d1 : (y : Int) < 256 := by omega
        have d0 : (0 : Int) ≤ (y : Int) := by omega
        clear hSS hx hy hc1
        have HAL := Lib.hid (HOWN.out.alloc (.cells #[.int .i64 ((S : Int) % 256)] 3 (0, 0)))
        have hs0 : _ ≤ wr.heap.size := HBL.out.size
        go_wp2_with (at_builtin; refine wpList_append_own _ rfl (.tmp 46) (.tmp 49) 105 rfl _ 3 i0 (.int .i64 0) 1 8 Tryz.underlying105 hi hz0 hz1 hz2 rfl (by decide) _ _ _ rfl HAL.out ⟨wr.heap.size, 0, none⟩ 1 1 [.int .i64 ((S : Int) % 256)] rfl rfl (one_cell wr _ _) (one_one _ rfl) HML.out HMB.out (le_alloc hs0 _) ?_)
        intro v1 w1 h1 h2 h3
        have HB1 := Lib.hid (below_app HBL.out _ _ _ _ _ HOWN.out h2)
        have HO1 := Lib.hid (HNEXT.out _ _ h1)
        clear h1 h2 h3 hs0
        go_wp2_with fail
        go_roundw
        case rel => exact ⟨j + 1, by have := HGO.out; omega, by go_num, by rw [HC.out]; go_num, HO1.out, HB1.out⟩
        case measure => simp [intOf]; have := HGO.out; have := HN.out.2.2; have := HM.out.2.2; omega
      · have j2 : ¬ (j : Int) < m := by omega
        by_cases h3 : c = 0
        · subst h3
          have he := Lib.hid (hend.out (by omega) (by omega) rfl)
          clear CA CB HNEXT HC
          go_wp2_with fail
          go_ret
          exact ⟨HBL.out, _, rfl, j, by omega, by omega, HJ.out, he.out, HOWN.out⟩
        · obtain rfl : c = 1 := by omega
          have HGO := Lib.hid (show j < max n m + 1 from by
            refine Nat.lt_of_le_of_ne HJ.out fun e => h3 (HCZ.out e))
          have x0 : x = 0 := hx0.out (by omega)
          subst x0
          have y0 : y = 0 := hy0.out (by omega)
          subst y0
          clear h3 hx hy hc1 hend HCZ CA CB hx0 hy0 HA HB
          rw [show ((1 : Nat) : Int) = 1 from rfl]
          have HAL := Lib.hid (HOWN.out.alloc (.cells #[.int .i64 1] 3 (0, 0)))
          have hs0 : _ ≤ wr.heap.size := HBL.out.size
          go_wp2_with (at_builtin; refine wpList_append_own _ rfl (.tmp 46) (.tmp 49) 105 rfl _ 3 i0 (.int .i64 0) 1 8 Tryz.underlying105 hi hz0 hz1 hz2 rfl (by decide) _ _ _ rfl HAL.out ⟨wr.heap.size, 0, none⟩ 1 1 [.int .i64 1] rfl rfl (one_cell wr _ _) (one_one _ rfl) HML.out HMB.out (le_alloc hs0 _) ?_)
          intro v1 w1 h1 h2 h3
          have HB1 := Lib.hid (below_app HBL.out _ _ _ _ _ HOWN.out h2)
          have HO1 := Lib.hid (HNEXT.out _ _ h1)
          clear h1 h2 h3 hs0
          go_wp2_with fail
          go_roundw
          case rel => exact ⟨j + 1, by have := HGO.out; omega, by go_num, by rw [HC.out]; rfl, HO1.out, HB1.out⟩
          case measure => simp [intOf]; have := HGO.out; have := HN.out.2.2; have := HM.out.2.2; omega
end Go.Proofs.YtfckjilhkdlpfaaGreatDoor

namespace Go.Proofs.YtfckjilhkdlpfaaGreatDoor
open Go.RowKit MS
/-- A row of digits of the call's own. -/
structure ETt (g N : Nat) (w0 : World) (l : List Nat) (w : World) : Prop where
  own : w.ownsRow w0.heap.size 3 1 (.slice (some ⟨g, 0, none⟩) N N) N (evs l)
  bel : Below w0.heap.size w0 w
theorem ETt.drewN {g N : Nat} {w0 w : World} {l : List Nat} (h : ETt g N w0 l w) (k : Nat) : ETt g N w0 l (w.drewN k) := ⟨h.own, below_drewN h.bel k⟩
theorem ETt.cell {g N : Nat} {w0 w : World} {l : List Nat} (h : ETt g N w0 l w) (j x : Nat) (hj : j < N) (hx : l[j]? = some x) : w.cell? ⟨g, j, none⟩ = some (.int .i64 (x : Int)) := by
  rw [h.own.cellAt j (by omega), evs, List.getElem?_map, hx]
  rfl
theorem ETt.free {g N : Nat} {w0 w : World} {l : List Nat} (h : ETt g N w0 l w) (j : Nat) : w.frozen? ⟨g, j, none⟩ = false := h.own.frozenAt j
theorem ETt.put {g N : Nat} {w0 w : World} {l : List Nat} (h : ETt g N w0 l w) (j x : Nat) (v : Value) (hv : v = .int .i64 (x : Int)) : ETt g N w0 (l.set j x) (w.setCell ⟨g, j, none⟩ v) := by
  subst hv
  refine ⟨?_, h.bel.setCell ((own_cap h.own).2.2.1) _⟩
  have := (h.own.stored j (.int .i64 (x : Int))).1
  rwa [show (evs l).set j (.int .i64 (x : Int)) = evs (l.set j x) by simp [evs, List.map_set]] at this

theorem made_zerosE (N : Nat) : (madeCells #[.int .i64 0] N).toList = evs (dgn 256 N 0) := by
  apply List.ext_getElem?
  intro j
  rw [dg_zero, evs, List.getElem?_map, List.getElem?_replicate]
  by_cases h : j < N
  · simp [madeCells, h, Nat.mod_one]
  · simp [madeCells, h]
theorem natmodE (S : Nat) : Value.int .i64 ((S : Int) % 256) = .int .i64 ((S % 256 : Nat) : Int) := rfl

set_option maxRecDepth 1000000 in
set_option maxHeartbeats 2000000 in
theorem ptimes_any (n m u v : Nat) (va vb : Value) (ba bb : Nat) (w : World) (ha : ES w ba va n u) (hb : ES w bb vb m v) :
    Calls Tryz.prog 116 #[va, vb] w fun e w' => Below w.heap.size w w' ∧ ∃ r, e = .returned r ∧ w'.ownsRow w.heap.size 3 1 r (n + m) (evs (dgn 256 (n + m) (u * v))) := by
  obtain ⟨i0, hi, hz0, hz1, hz2⟩ : ∃ i, Tryz.prog.info? 3 = some i ∧ i.zero = some (.int .i64 0) ∧ i.size = 1 ∧ i.bytes = 8 := ⟨_, rfl, rfl, rfl, rfl⟩
  obtain ⟨ga, ca, rfl, -, -⟩ := ha.form
  obtain ⟨gb, cb, rfl, -, -⟩ := hb.form
  have HA := Lib.hid ha.cells
  have HB := Lib.hid hb.cells
  have HN := Lib.hid ha.2
  have HM := Lib.hid hb.2
  have hn1 : (n : Int) ≤ 100 := by have := HN.out.2.2; omega
  have hm1 : (m : Int) ≤ 100 := by have := HM.out.2.2; omega
  have hn0 : (0 : Int) ≤ n := by omega
  have hm0 : (0 : Int) ≤ m := by omega
  have hy2 : i0.bytes * (n + m) ≤ 281474976710656 := by rw [hz2]; omega
  have hy3 : n + m ≤ maxLen := by unfold maxLen; omega
  clear ha hb
  go_enter Tryz.func116, Tryz.ntmps116
  go_wp2_with (at_make; refine wpList_make_full w rfl (.tmp 14) (.tmp 14) 105 rfl w.heap.size 3 i0 (.int .i64 0) 1 Tryz.underlying105 hi hz0 hz1 .i64 .i64 ((n : Int) + (m : Int)) ((n : Int) + (m : Int)) (n + m) rfl rfl (Int.natCast_add n m).symm (Int.natCast_add n m).symm hy2 hy3 (Nat.le_refl _) ?_)
  intro w1 h1 h2
  rw [made_zerosE] at h1
  have T0 := Lib.hid (show ETt w.heap.size (n + m) w (dgn 256 (n + m) (u % 256 ^ 0 * v)) w1 from ⟨by rw [Nat.pow_zero, Nat.mod_one, Nat.zero_mul]; exact h1, (Below.refl w.heap.size w).grown h2 (Nat.le_refl _) (fun k hk => by cases hk)⟩)
  have HNM := Lib.hid (show ∃ N, N = n + m from ⟨_, rfl⟩)
  obtain ⟨N, hNM⟩ := HNM.out
  rw [← hNM] at T0
  rw [← hNM]
  have HG := Lib.hid hNM
  generalize hg : w.heap.size = g at T0 ⊢
  have HGG := Lib.hid hg
  clear h1 h2 hy2 hy3 HNM hNM hg
  have nN : (N : Int) ≤ 200 := by have := HG.out; omega
  go_wp2_with fail
  go_loopw [6] (fun i wr => ∃ j : Nat, j ≤ n ∧ i = .int .i64 j ∧ ETt g N w (dgn 256 N (u % 256 ^ j * v)) wr) (fun i _ => 300 - (intOf i).toNat)
  case atStart => exact ⟨0, by omega, rfl, T0.out⟩
  case round =>
    obtain ⟨j, hj, rfl, hr⟩ := hrel
    have R1 := Lib.hid hr
    have HJ := Lib.hid hj
    clear hr hj T0
    by_cases hlt : j < n
    · have j1 : (j : Int) < n := by omega
      have j0 : (0 : Int) ≤ j := by omega
      have HLT := Lib.hid hlt
      have hx := dig_lt 256 (by decide) u j
      have HX := Lib.hid (fun wr h => HA.out wr h j hlt)
      have hS0 := trow_zero 256 N u v j (by have := HG.out; omega)
      have HC0 := Lib.hid (tsum_c0 256 u v j (by decide))
      have R2 := R1.out
      rw [← hS0] at R2
      have R3 := Lib.hid R2
      clear R1 R2 hS0 hlt
      go_wp2_with fail
      obtain ⟨wo, rfl⟩ : ∃ wo : World, wo = wr := ⟨_, rfl⟩
      go_loopw [7, 8] (fun c i wr => ∃ k : Nat, k ≤ m ∧ i = .int .i64 k ∧ c = .int .i64 ((tsum 256 u v j k / 256 ^ (j + k) : Nat) : Int) ∧ ETt g N w (trow 256 N u v j k) wr) (fun _ i _ => 300 - (intOf i).toNat)
      case atStart => exact ⟨0, by omega, rfl, by rw [HC0.out]; rfl, R3.out⟩
      case round =>
        obtain ⟨k, hk, rfl, rfl, hr⟩ := hrel
        have R4 := Lib.hid hr
        have HK := Lib.hid hk
        have hc := tsum_c_lt 256 u v j k (by decide)
        have hL := trow_get 256 N u v j k (j + k) (Nat.le_refl _) (by have := HG.out; have := HLT.out; have := HM.out.2.1; omega)
        clear hr hk R3
        by_cases hlt : k < m
        · have k1 : (k : Int) < m := by omega
          have k0 : (0 : Int) ≤ k := by omega
          have HLK := Lib.hid hlt
          have hpN : j + k < N := by have := HG.out; have := HLT.out; omega
          have hy := dig_lt 256 (by decide) v k
          have cx := HX.out wr R4.out.bel
          have cy := HB.out wr R4.out.bel k hlt
          have hd := tsum_digit 256 u v j k (by decide)
          have hcc := tsum_carry 256 u v j k (by decide)
          have hl := dig_lt 256 (by decide) (u % 256 ^ j * v) (j + k)
          have hset := trow_set 256 N u v j k hpN
          rw [hd] at hset
          have cl := R4.out.cell (j + k) _ hpN hL
          have fl := R4.out.free (j + k)
          have HST := Lib.hid (show ∀ kk : Nat, ∀ x : Value, x = .int .i64 (((tsum 256 u v j k / 256 ^ (j + k) + (u % 256 ^ j * v / 256 ^ (j + k) % 256 + u / 256 ^ j % 256 * (v / 256 ^ k % 256))) % 256 : Nat) : Int) → ETt g N w (trow 256 N u v j (k + 1)) ((wr.drewN kk).setCell ⟨g, j + k, none⟩ x) from fun kk x hx => by
            rw [← hset]
            exact (R4.out.drewN kk).put (j + k) _ x hx)
          have HCC := Lib.hid hcc
          clear hcc hset hd hL HX R4
          generalize u / 256 ^ j % 256 = x at *
          generalize v / 256 ^ k % 256 = y at *
          generalize tsum 256 u v j k / 256 ^ (j + k) = c at *
          generalize u % 256 ^ j * v / 256 ^ (j + k) % 256 = l at *
          have hP : x * y ≤ 65535 * 65535 := Nat.mul_le_mul (by omega) (by omega)
          obtain ⟨P, hPP⟩ : ∃ P : Nat, P = x * y := ⟨_, rfl⟩
          rw [← hPP] at hP HST HCC
          have qP : (x : Int) * (y : Int) = (P : Int) := by rw [hPP]; exact (Int.natCast_mul x y).symm
          obtain ⟨S, hSS⟩ : ∃ S : Nat, S = c + (l + P) := ⟨_, rfl⟩
          rw [← hSS] at HST HCC
          have qS : (l : Int) + (P : Int) + (c : Int) = (S : Int) := by omega
          have qS2 : (l : Int) + (P : Int) ≤ 4294967296 := by omega
          have S1 : (S : Int) ≤ 4295098368 := by omega
          have S0 : (0 : Int) ≤ (S : Int) := by omega
          have P1 : (P : Int) ≤ 4294836225 := by omega
          have P0 : (0 : Int) ≤ (P : Int) := by omega
          have l1 : (l : Int) < 256 := by omega
          have l0 : (0 : Int) ≤ (l : Int) := by omega
          obtain ⟨p, hp⟩ : ∃ p : Nat, p = j + k := ⟨_, rfl⟩
          rw [← hp] at cl fl HST
          have qp : (j : Int) + (k : Int) = (p : Int) := by omega
          have p1 : (p : Int) < N := by omega
          have p0 : (0 : Int) ≤ (p : Int) := by omega
          have kb : (k : Int) ≤ 100 := by omega
          clear hSS hPP hP hp hpN hx hy hc hl hlt
          go_wp2_with fail
          go_quiet (fail)
          have HS2 := Lib.hid (HST.out nq _ (natmodE S))
          have f2 : (wr.drewN nq).frozen? ⟨g, p, none⟩ = false := fl
          have c2 : (wr.drewN nq).cell? ⟨g, p, none⟩ = some (.int .i64 (l : Int)) := cl
          clear fl cl cx cy HST
          generalize wr.drewN nq = wq at *
          go_wp2_with fail
          go_roundw
          case rel => exact ⟨k + 1, by have := HLK.out; omega, by go_num, by rw [HCC.out]; go_num, HS2.out⟩
          case measure => simp [intOf]; have := HLK.out; have := HM.out.2.2; omega
        · have k1 : ¬ (k : Int) < m := by omega
          have hkm : k = m := by have := HK.out; omega
          subst hkm
          have hlast := trow_last 256 N u v j k (by decide) HM.out.1 (by have := HG.out; have := HLT.out; omega)
          have hpN : j + k < N := by have := HG.out; have := HLT.out; omega
          have hl := dig_lt 256 (by decide) (u % 256 ^ j * v) (j + k)
          have cl := R4.out.cell (j + k) _ hpN hL
          have fl := R4.out.free (j + k)
          have HST := Lib.hid (show ∀ x : Value, x = .int .i64 (((u % 256 ^ j * v / 256 ^ (j + k) % 256 + tsum 256 u v j k / 256 ^ (j + k) : Nat)) : Int) → ETt g N w (dgn 256 N (u % 256 ^ (j + 1) * v)) (wr.setCell ⟨g, j + k, none⟩ x) from fun x hx => by
            rw [← hlast]
            exact R4.out.put (j + k) _ x hx)
          clear hlast hL R4
          generalize tsum 256 u v j k / 256 ^ (j + k) = c at *
          generalize u % 256 ^ j * v / 256 ^ (j + k) % 256 = l at *
          have c1 : (c : Int) < 256 := by omega
          have c0 : (0 : Int) ≤ (c : Int) := by omega
          have l1 : (l : Int) < 256 := by omega
          have l0 : (0 : Int) ≤ (l : Int) := by omega
          obtain ⟨p, hp⟩ : ∃ p : Nat, p = j + k := ⟨_, rfl⟩
          rw [← hp] at cl fl HST
          have qp : (j : Int) + (k : Int) = (p : Int) := by omega
          have p1 : (p : Int) < N := by omega
          have p0 : (0 : Int) ≤ (p : Int) := by omega
          have kb : (k : Int) ≤ 100 := by omega
          have HS2 := Lib.hid (HST.out (.int .i64 ((l : Int) + (c : Int))) (by rw [Int.natCast_add]))
          clear hp hpN hc hl hlt HST hx HX
          go_wp2_with fail
          go_roundw
          case rel => exact ⟨j + 1, by have := HLT.out; omega, by go_num, HS2.out⟩
          case measure => simp [intOf]; have := HLT.out; have := HN.out.2.2; omega
    · have j1 : ¬ (j : Int) < n := by omega
      have hjn : j = n := by have := HJ.out; omega
      subst hjn
      have R9 := R1.out
      rw [Nat.mod_eq_of_lt HN.out.1] at R9
      have HB9 := Lib.hid R9.bel
      have HO9 := Lib.hid R9.own
      clear R9 R1 hlt
      go_wp2_with fail
      go_ret
      exact ⟨HB9.out, _, rfl, by rw [← HG.out]; exact HO9.out⟩
end Go.Proofs.YtfckjilhkdlpfaaGreatDoor

namespace Go.Proofs.YtfckjilhkdlpfaaGreatDoor
open Go.RowKit MS
def lo130 (u : Nat) : Nat := u % 1361129467683753853853498429727072845824
def hi130 (u : Nat) : Nat := u / 1361129467683753853853498429727072845824
theorem p130 : (1361129467683753853853498429727072845824 : Nat) = 256 ^ 16 * 4 := by decide
theorem lo_digE (u i : Nat) (h : i < 16) : lo130 u / 256 ^ i % 256 = u / 256 ^ i % 256 := by
  rw [← dig_mod 256 16 (lo130 u) i h, ← dig_mod 256 16 u i h, lo130, p130, Nat.mod_mul_right_mod]
theorem lo_dig16 (u : Nat) : lo130 u / 256 ^ 16 % 256 = u / 256 ^ 16 % 256 % 4 := by
  rw [lo130, p130, Nat.mod_mul_right_div_self]
  omega
theorem hi_digE (u j : Nat) : hi130 u / 256 ^ j % 256 = u / 256 ^ (16 + j) % 256 / 4 + u / 256 ^ (16 + j + 1) % 256 % 4 * 64 := by
  have e : hi130 u / 256 ^ j = u / 256 ^ (16 + j) / 4 := by
    rw [hi130, p130, Nat.div_div_eq_div_mul, Nat.div_div_eq_div_mul, Nat.pow_add]
    congr 1
    rw [Nat.mul_assoc, Nat.mul_assoc, Nat.mul_comm 4]
  rw [e, Nat.pow_succ, ← Nat.div_div_eq_div_mul]
  generalize u / 256 ^ (16 + j) = X
  omega
theorem lo_ltE (u : Nat) : lo130 u < 1361129467683753853853498429727072845824 := Nat.mod_lt _ (by decide)
theorem lo_lt17 (u : Nat) : lo130 u < 256 ^ 17 := Nat.lt_trans (lo_ltE u) (by decide)
theorem hi_ltE {u n : Nat} (h : u < 256 ^ n) (hn : 16 ≤ n) : hi130 u < 256 ^ (n - 16) := by
  obtain ⟨m, rfl⟩ : ∃ m, n = 16 + m := ⟨n - 16, by omega⟩
  rw [hi130, Nat.div_lt_iff_lt_mul (by decide), p130, Nat.add_sub_cancel_left]
  refine Nat.lt_of_lt_of_le h ?_
  rw [Nat.pow_add, Nat.mul_comm, ← Nat.mul_assoc]
  exact Nat.le_mul_of_pos_right _ (by decide)
theorem hi_small {u n : Nat} (h : u < 256 ^ n) (hn : n ≤ 16) : hi130 u = 0 := by
  rw [hi130, Nat.div_eq_of_lt]
  exact Nat.lt_of_lt_of_le h (Nat.le_trans (Nat.pow_le_pow_right (by decide) hn) (by decide))
theorem fold_modE (u : Nat) : (lo130 u + 5 * hi130 u) % P130 = u % P130 := by
  have h := Nat.div_add_mod u 1361129467683753853853498429727072845824
  have e : u = lo130 u + 5 * hi130 u + P130 * hi130 u := by
    unfold lo130 hi130 P130
    omega
  conv => rhs; rw [e, Nat.add_mul_mod_self_left]
theorem fold_ltE {u : Nat} (h : hi130 u ≠ 0) : lo130 u + 5 * hi130 u < u := by
  have h1 := Nat.div_add_mod u 1361129467683753853853498429727072845824
  unfold lo130 hi130 at *
  omega
theorem fold_sameE {u : Nat} (h : hi130 u = 0) : lo130 u = u := by
  have h1 := Nat.div_add_mod u 1361129467683753853853498429727072845824
  unfold lo130 hi130 at *
  omega
/-- 17 digits below 2^130, five more: whether the prime is in it. -/
theorem five_more {u : Nat} (h : u < 1361129467683753853853498429727072845824) : u + 5 < 256 ^ 17 ∧ (3 < (u + 5) / 256 ^ 16 % 256 ↔ P130 ≤ u) ∧ (P130 ≤ u → u % P130 = u + 5 - 4 * 256 ^ 16) ∧ (u < P130 → u % P130 = u) := by
  unfold P130
  rw [show (256 : Nat) ^ 16 = 340282366920938463463374607431768211456 by decide, show (256 : Nat) ^ 17 = 87112285931760246646623899502532662132736 by decide]
  refine ⟨by omega, by omega, by omega, by omega⟩
/-- The 17th digit, four less. -/
theorem dg_less {v : Nat} (h : 3 < v / 256 ^ 16 % 256) (hv : v < 256 ^ 17) : (dgn 256 17 v).set 16 (v / 256 ^ 16 % 256 - 4) = dgn 256 17 (v - 4 * 256 ^ 16) := by
  have e1 : v - 4 * 256 ^ 16 + 4 * 256 ^ 16 = v := by
    rw [show (256 : Nat) ^ 16 = 340282366920938463463374607431768211456 by decide] at *
    omega
  rw [show dgn 256 17 v = dgn 256 16 v ++ [v / 256 ^ 16 % 256] from dg_succ _ _ _, show dgn 256 17 (v - 4 * 256 ^ 16) = dgn 256 16 (v - 4 * 256 ^ 16) ++ [(v - 4 * 256 ^ 16) / 256 ^ 16 % 256] from dg_succ _ _ _, List.set_append_right _ _ (by rw [length_dgn]; exact Nat.le_refl _), length_dgn]
  have a1 : dgn 256 16 v = dgn 256 16 (v - 4 * 256 ^ 16) := by
    refine dg_congr _ _ _ _ ?_
    conv => lhs; rw [← e1]
    rw [Nat.add_mul_mod_self_right]
  have a2 : v / 256 ^ 16 % 256 - 4 = (v - 4 * 256 ^ 16) / 256 ^ 16 % 256 := by
    clear e1 a1
    rw [show (256 : Nat) ^ 16 = 340282366920938463463374607431768211456 by decide] at *
    rw [show (256 : Nat) ^ 17 = 87112285931760246646623899502532662132736 by decide] at hv
    omega
  rw [Nat.sub_self, List.set_cons_zero, a1, a2]
theorem low_app (u j : Nat) (h : j < 16) : dgn 256 (j + 1) (lo130 u) = dgn 256 j (lo130 u) ++ [u / 256 ^ j % 256] := by
  rw [dg_succ, lo_digE u j h]
theorem low_app16 (u : Nat) : dgn 256 17 (lo130 u) = dgn 256 16 (lo130 u) ++ [u / 256 ^ 16 % 256 % 4] := by
  rw [dg_succ, lo_dig16]
theorem high_getE (u n j : Nat) (hn : u < 256 ^ n) (h16 : 16 ≤ j) : u / 256 ^ j % 256 / 4 + (if j + 1 < n then u / 256 ^ (j + 1) % 256 % 4 * 64 else 0) = hi130 u / 256 ^ (j - 16) % 256 := by
  rw [hi_digE, show 16 + (j - 16) = j by omega]
  split
  · rfl
  · rw [dig_zero hn (by decide) (show n ≤ j + 1 by omega)]
theorem high_appE (u j : Nat) (h16 : 16 ≤ j) : dgn 256 (j + 1 - 16) (hi130 u) = dgn 256 (j - 16) (hi130 u) ++ [hi130 u / 256 ^ (j - 16) % 256] := by
  rw [show j + 1 - 16 = j - 16 + 1 by omega, dg_succ]
/-- Is there anything in the digits so far? -/
def anyH (u k : Nat) : Bool := decide (hi130 u % 256 ^ k ≠ 0)
theorem anyH_zero (u : Nat) : anyH u 0 = false := by simp [anyH, Nat.mod_one]
theorem anyH_succ (u k : Nat) : anyH u (k + 1) = (anyH u k || decide (0 < hi130 u / 256 ^ k % 256)) := by
  unfold anyH
  rw [mod_succ, Bool.eq_iff_iff]
  simp only [decide_eq_true_eq, Bool.or_eq_true]
  have hp : 0 < 256 ^ k := Nat.pow_pos (by decide)
  constructor
  · intro h
    by_cases h1 : hi130 u % 256 ^ k = 0
    · right
      refine Nat.pos_of_ne_zero fun h2 => h ?_
      rw [h1, h2, Nat.mul_zero]
    · exact .inl h1
  · rintro (h | h)
    · omega
    · have := Nat.mul_pos hp h
      omega
theorem anyH_end {u k : Nat} (h : hi130 u < 256 ^ k) : anyH u k = decide (hi130 u ≠ 0) := by rw [anyH, Nat.mod_eq_of_lt h]
/-- Two rows of the call's own in different blocks. -/
def apart (x y : Value) : Prop := ∀ k, x.ownBlock = some k → y.ownBlock ≠ some k
/-- What the inner loop keeps. -/
structure PRt (w0 : World) (u k1 k2 : Nat) (x y : Value) (w : World) : Prop where
  low : w.ownsRow w0.heap.size 3 1 x k1 (evs (dgn 256 k1 (lo130 u)))
  high : w.ownsRow w0.heap.size 3 1 y k2 (evs (dgn 256 k2 (hi130 u)))
  ap : apart x y
  bel : Below w0.heap.size w0 w
theorem PRt.drewN {w0 : World} {u k1 k2 : Nat} {x y : Value} {w : World} (h : PRt w0 u k1 k2 x y w) (m : Nat) : PRt w0 u k1 k2 x y (w.drewN m) := ⟨h.low, h.high, h.ap, below_drewN h.bel m⟩
theorem PRt.start (w : World) (u : Nat) : PRt w u 0 0 (.slice none 0 0) (.slice none 0 0) w := ⟨World.ownsRow_nil _ _ _ _, World.ownsRow_nil _ _ _ _, fun _ h => by simp [Value.ownBlock] at h, Below.refl _ _⟩
/-- Something appended to low: in its own block, or in a new one. -/
theorem PRt.appLow {w0 : World} {u k1 k1' k2 : Nat} {x y : Value} {w w' : World} (h : PRt w0 u k1 k2 x y w) (o : Obj) {g n cap H : Nat} (hH : (w.alloc o).heap.size = H) (ho : w'.ownsRow w0.heap.size 3 1 (.slice (some ⟨g, 0, none⟩) n cap) k1' (evs (dgn 256 k1' (lo130 u))))
    (hg : (w.alloc o).grownBy w' x.ownBlock) (hn : x.ownBlock = some g ∨ g = H) : PRt w0 u k1' k2 (.slice (some ⟨g, 0, none⟩) n cap) y w' := by
  have hs : H = w.heap.size + 1 := by rw [← hH, World.size_alloc]
  refine ⟨ho, (h.high.alloc o).kept hg ?_, ?_, ?_⟩
  · cases hy : y.ownBlock with
    | none => exact .inl rfl
    | some k => exact .inr fun e => h.ap k e.symm hy
  · intro k hk
    simp [Value.ownBlock] at hk
    subst hk
    rcases hn with hn | hn
    · exact h.ap _ hn
    · intro e
      have := (h.high.lt _ e).2
      omega
  · exact (below_alloc h.bel o).grown hg (by rw [hH, hs]; exact Nat.le_succ_of_le h.bel.size) (fun m hm => (h.low.lt m hm).1)
theorem PRt.appHigh {w0 : World} {u k1 k2 k2' : Nat} {x y : Value} {w w' : World} (h : PRt w0 u k1 k2 x y w) (o : Obj) {g n cap H : Nat} (hH : (w.alloc o).heap.size = H) (ho : w'.ownsRow w0.heap.size 3 1 (.slice (some ⟨g, 0, none⟩) n cap) k2' (evs (dgn 256 k2' (hi130 u))))
    (hg : (w.alloc o).grownBy w' y.ownBlock) (hn : y.ownBlock = some g ∨ g = H) : PRt w0 u k1 k2' x (.slice (some ⟨g, 0, none⟩) n cap) w' := by
  have hs : H = w.heap.size + 1 := by rw [← hH, World.size_alloc]
  refine ⟨(h.low.alloc o).kept hg ?_, ho, ?_, ?_⟩
  · cases hx : x.ownBlock with
    | none => exact .inl rfl
    | some k => exact .inr fun e => h.ap k hx e.symm
  · intro k hk
    simp only [Value.ownBlock]
    rcases hn with hn | hn
    · intro e
      cases e
      exact h.ap _ hk hn
    · intro e
      cases e
      have := (h.low.lt _ hk).2
      omega
  · exact (below_alloc h.bel o).grown hg (by rw [hH, hs]; exact Nat.le_succ_of_le h.bel.size) (fun m hm => (h.high.lt m hm).1)
/-- The number that a slice of digits holds. -/
def sumE (f : Nat → Nat) : Nat → Nat
  | 0 => 0
  | n + 1 => sumE f n + 256 ^ n * f n
theorem sumE_congr {f h : Nat → Nat} (n : Nat) (hf : ∀ i, i < n → f i = h i) : sumE f n = sumE h n := by
  induction n with
  | zero => rfl
  | succ n ih => rw [sumE, sumE, ih (fun i hi => hf i (by omega)), hf n (by omega)]
theorem sumE_dig (u n : Nat) : sumE (fun i => u / 256 ^ i % 256) n = u % 256 ^ n := by
  induction n with
  | zero => simp [sumE, Nat.mod_one]
  | succ n ih => rw [sumE, ih, mod_succ]
def cellE (w : World) (a : Addr) : Nat := match w.cell? a with
  | some (.int _ x) => x.toNat
  | _ => 0
def numE (w : World) : Value → Nat
  | .slice (some a) n _ => sumE (fun i => cellE w ⟨a.block, i, none⟩) n
  | _ => 0
theorem ES.num {w : World} {base n u : Nat} {v : Value} (h : ES w base v n u) : numE w v = u := by
  obtain ⟨g, cap, rfl, -, -⟩ := h.form
  rw [numE, sumE_congr (h := fun i => u / 256 ^ i % 256) n (fun i hi => by show cellE w ⟨g, i, none⟩ = _; rw [cellE, h.cell i hi]; exact Int.toNat_natCast _), sumE_dig, Nat.mod_eq_of_lt h.2.1]
theorem own_takeE {w : World} {base g n cap m : Nat} {e : TypeId} {xs : List Value} (h : w.ownsRow base e 1 (.slice (some ⟨g, 0, none⟩) n cap) n xs) (hm : m ≤ n) : w.ownsRow base e 1 (.slice (some ⟨g, 0, none⟩) m cap) m (xs.take m) := by
  rcases h.2 with ⟨h', _⟩ | ⟨g', cap', cur, h', hb, hg, hnc, hcm, hcs, htake⟩
  · simp at h'
  · simp only [Value.slice.injEq, Option.some.injEq, Addr.mk.injEq, and_true, true_and] at h'
    obtain ⟨rfl, rfl⟩ := h'
    have hl := h.1
    refine ⟨by rw [List.length_take]; omega, .inr ⟨g, cap, cur, rfl, hb, hg, by omega, hcm, hcs, ?_⟩⟩
    rw [← htake, List.take_take]
    congr 1
    omega
theorem evs_take (l : List Nat) (m : Nat) : (evs l).take m = evs (l.take m) := by simp [evs, List.map_take]
theorem dgn_takeE (B n m u : Nat) (h : m ≤ n) : (dgn B n u).take m = dgn B m u := by
  apply List.ext_getElem?
  intro i
  rw [List.getElem?_take]
  by_cases hi : i < m
  · rw [if_pos hi, dg_get _ _ _ _ hi, dg_get _ _ _ _ (by omega)]
  · rw [if_neg hi, List.getElem?_eq_none (by rw [length_dgn]; omega)]
end Go.Proofs.YtfckjilhkdlpfaaGreatDoor

namespace Go.Proofs.YtfckjilhkdlpfaaGreatDoor
open Go.RowKit MS
theorem number_step (l : List UInt8) (j : Nat) (h : j < l.length) : dgn 256 (j + 1) (leb l) = dgn 256 j (leb l) ++ [(l.getD j 0).toNat] := by
  rw [dg_succ, leb_digit l j h, List.getD_eq_getElem?_getD, List.getElem?_eq_getElem h]
  rfl

set_option maxRecDepth 1000000 in
set_option maxHeartbeats 1000000 in
theorem number_any (s : ByteArray) (w : World) (hs : s.size ≤ 90) :
    Calls Tryz.prog 114 #[.string s] w fun e w' => Below w.heap.size w w' ∧ ∃ r, e = .returned r ∧ w'.ownsRow w.heap.size 3 1 r s.size (evs (dgn 256 s.size (leb (ls s)))) := by
  obtain ⟨i0, hi, hz0, hz1, hz2⟩ : ∃ i, Tryz.prog.info? 3 = some i ∧ i.zero = some (.int .i64 0) ∧ i.size = 1 ∧ i.bytes = 8 := ⟨_, rfl, rfl, rfl, rfl⟩
  have HST := Lib.hid (fun j h => number_step (ls s) j h)
  have HLEN := Lib.hid (length_ls s)
  have HS := Lib.hid hs
  have hown0 : w.ownsRow w.heap.size 3 1 (.slice none 0 0) 0 (evs (dgn 256 0 (leb (ls s)))) := World.ownsRow_nil _ _ _ _
  have hz : (s.size : Int) ≤ 90 := by omega
  clear hs
  go_enter Tryz.func114, Tryz.ntmps114
  go_wp2_with fail
  go_loopw [3, 4] (fun v i wr => ∃ j : Nat, j ≤ s.size ∧ i = .int .i64 j ∧ wr.ownsRow w.heap.size 3 1 v j (evs (dgn 256 j (leb (ls s)))) ∧ Below w.heap.size w wr) (fun _ i _ => s.size - (intOf i).toNat)
  case atStart => exact ⟨0, by omega, rfl, hown0, Below.refl _ _⟩
  case round =>
    obtain ⟨j, hj, rfl, ho, hb⟩ := hrel
    have HO := Lib.hid ho
    have HB := Lib.hid hb
    have HJ := Lib.hid hj
    have hs0 : _ ≤ wr.heap.size := hb.size
    clear ho hb hj hown0
    by_cases hlt : j < s.size
    · have j1 : (j : Int) < s.size := by omega
      have j0 : (0 : Int) ≤ (j : Int) := by omega
      have HL := Lib.hid hlt
      have HST2 := Lib.hid (HST.out j (by rw [HLEN.out]; exact hlt))
      have g0 := ls_get s j hlt
      have b0 := UInt8.toNat_lt ((ls s).getD j 0)
      have HML := Lib.hid (show j + 1 ≤ maxLen by have := HS.out; unfold maxLen; omega)
      have HMB := Lib.hid (show (j + 1) * 8 ≤ 140737488355328 by have := HS.out; omega)
      generalize (ls s).getD j 0 = x0 at *
      have m0 : (x0.toNat : Int) < 256 := by omega
      have HAL := Lib.hid (HO.out.alloc (.cells #[.int .i64 (x0.toNat : Int)] 3 (0, 0)))
      clear b0
      go_wp2_with (at_builtin; refine wpList_append_own _ rfl (.tmp 11) (.tmp 16) 105 rfl _ 3 i0 (.int .i64 0) 1 8 Tryz.underlying105 hi hz0 hz1 hz2 rfl (by decide) _ _ _ rfl HAL.out ⟨wr.heap.size, 0, none⟩ 1 1 [.int .i64 (x0.toNat : Int)] rfl rfl (one_cell wr _ _) (one_one _ rfl) HML.out HMB.out (le_alloc hs0 _) ?_)
      intro v1 w1 h1 h2 h3
      have HB1 := Lib.hid (below_app HB.out _ _ _ _ _ HO.out h2)
      have HO1 := Lib.hid (show w1.ownsRow w.heap.size 3 1 v1 (j + 1) (evs (dgn 256 (j + 1) (leb (ls s)))) from by rw [HST2.out, evs_app]; exact h1)
      clear h1 h2 h3 hs0 g0 hlt
      go_wp2_with fail
      go_roundw
      case rel => exact ⟨j + 1, by have := HL.out; omega, by go_num, HO1.out, HB1.out⟩
      case measure => simp [intOf]; have := HL.out; omega
    · have j1 : ¬ (j : Int) < s.size := by omega
      have hjn : j = s.size := by have := HJ.out; omega
      have HO9 := Lib.hid (show wr.ownsRow w.heap.size 3 1 _ s.size (evs (dgn 256 s.size (leb (ls s)))) from by rw [← hjn]; exact HO.out)
      clear hlt hjn
      go_wp2_with fail
      go_ret
      exact ⟨HB.out, _, rfl, HO9.out⟩
end Go.Proofs.YtfckjilhkdlpfaaGreatDoor

namespace Go.Proofs.YtfckjilhkdlpfaaGreatDoor
open Go.RowKit MS
def lenOfE : Value → Nat
  | .slice _ n _ => n
  | _ => 0
/-- What the outer loop keeps. -/
structure POt (w0 : World) (u n' u' : Nat) (v : Value) (w : World) : Prop where
  dig : ES w 0 v n' u'
  bd : n' ≤ 60
  eq : u' % P130 = u % P130
  bel : Below w0.heap.size w0 w

set_option maxRecDepth 1000000 in
set_option maxHeartbeats 4000000 in
theorem preduce_any (n u : Nat) (va : Value) (ba : Nat) (w : World) (ha : ES w ba va n u) (hn60 : n ≤ 60) :
    Calls Tryz.prog 115 #[va] w fun e w' => Below w.heap.size w w' ∧ ∃ r, e = .returned r ∧ ES w' 0 r 17 (u % P130) := by
  obtain ⟨i0, hi, hz0, hz1, hz2⟩ : ∃ i, Tryz.prog.info? 3 = some i ∧ i.zero = some (.int .i64 0) ∧ i.size = 1 ∧ i.bytes = 8 := ⟨_, rfl, rfl, rfl, rfl⟩
  have H0 := Lib.hid (show POt w u n u va w from ⟨ha.base (Nat.zero_le _), hn60, rfl, Below.refl _ _⟩)
  clear ha hn60
  go_enter Tryz.func115, Tryz.ntmps115
  go_wp2_with fail
  go_loopw [0] (fun v wr => ∃ n' u' : Nat, POt w u n' u' v wr) (fun v wr => numE wr v)
  case atStart => exact ⟨n, u, H0.out⟩
  case round =>
    obtain ⟨n', u', hd⟩ := hrel
    have HNUM := Lib.hid (show numE wr _ = u' from hd.dig.num)
    obtain ⟨ga, ca, rfl, -, hgw⟩ := hd.dig.form
    have HD := Lib.hid hd
    have HA := Lib.hid hd.dig.cells
    have HU := Lib.hid hd.dig.2.1
    have HN0 := Lib.hid hd.dig.2.2.1
    have HN60 := Lib.hid hd.bd
    have n1 : (n' : Int) ≤ 60 := by have := HN60.out; omega
    clear hd H0
    have R0 := Lib.hid (PRt.start wr u')
    go_wp2_with fail
    obtain ⟨wo, rfl⟩ : ∃ wo : World, wo = wr := ⟨_, rfl⟩
    go_loopw [3, 4, 5, 6] (fun x y m i wr => ∃ j : Nat, j ≤ n' ∧ i = .int .i64 j ∧ m = .bool (anyH u' (j - 16)) ∧ PRt wo u' (min j 17) (j - 16) x y wr) (fun _ _ _ i _ => 300 - (intOf i).toNat)
    case atStart => exact ⟨0, by omega, rfl, by rw [anyH_zero], R0.out⟩
    case round =>
      obtain ⟨j, hj, rfl, rfl, hr⟩ := hrel
      have R1 := Lib.hid hr
      have HJ := Lib.hid hj
      clear hr hj R0
      by_cases hlt : j < n'
      · have j1 : (j : Int) < n' := by omega
        have j0 : (0 : Int) ≤ j := by omega
        have HLT := Lib.hid hlt
        have ca0 := HA.out wr R1.out.bel j hlt
        have hx := dig_lt 256 (by decide) u' j
        by_cases h16 : j < 16
        · have k1 : (j : Int) < 16 := by omega
          have R2 := R1.out
          rw [Nat.min_eq_left (by omega), show j - 16 = 0 by omega] at R2
          have R3 := Lib.hid R2
          have HAPP := Lib.hid (low_app u' j h16)
          have H16 := Lib.hid h16
          have HAL := Lib.hid (R2.low.alloc (.cells #[.int .i64 ((u' / 256 ^ j % 256 : Nat) : Int)] 3 (0, 0)))
          have HML := Lib.hid (show j + 1 ≤ maxLen by unfold maxLen; omega)
          have HMB := Lib.hid (show (j + 1) * 8 ≤ 140737488355328 by omega)
          have hs0 : _ ≤ wr.heap.size := R2.bel.size
          clear R1 R2 h16 hlt
          generalize u' / 256 ^ j % 256 = d at *
          go_wp2_with (at_builtin; refine wpList_append_lies _ rfl (.tmp 17) (.tmp 22) 105 rfl _ 3 i0 (.int .i64 0) 1 8 Tryz.underlying105 hi hz0 hz1 hz2 rfl (by decide) _ _ _ rfl HAL.out ⟨wr.heap.size, 0, none⟩ 1 1 [.int .i64 (d : Int)] rfl rfl (one_cell wr _ _) (one_one _ rfl) (by decide) HML.out HMB.out (le_alloc hs0 _) (wr.heap.size + 1) (World.size_alloc _ _) ?_)
          intro g9 c9 w9 h1 h2 h3 h4
          have HR9 := Lib.hid (R3.out.appLow (k1' := j + 1) _ (World.size_alloc _ _) (by rw [HAPP.out, evs_app]; exact h1) h2 h3)
          clear h1 h2 h3 h4 ca0 hx hs0
          go_wp2_with fail
          go_roundw
          case rel => exact ⟨j + 1, HLT.out, by go_num, by rw [show j + 1 - 16 = j - 16 by have := H16.out; omega], by rw [Nat.min_eq_left (by have := H16.out; omega), show j + 1 - 16 = 0 by have := H16.out; omega]; exact HR9.out⟩
          case measure => simp [intOf]; have := HLT.out; have := HN60.out; omega
        · have k1 : ¬ (j : Int) < 16 := by omega
          have HG := Lib.hid (high_getE u' n' j HU.out (by omega))
          have HAPPH := Lib.hid (high_appE u' j (by omega))
          have HANY := Lib.hid (anyH_succ u' (j - 16))
          have HYL := Lib.hid (dig_lt 256 (by decide) u' (j + 1))
          have H16 := Lib.hid (show 16 ≤ j by omega)
          by_cases h17 : j = 16
          case' pos =>
            have k2 : ((j : Int) == 16) = true := by simp; omega
            have R2 := R1.out
            rw [Nat.min_eq_left (by omega), h17, show 16 - 16 = 0 from rfl] at R2
            have R3 := Lib.hid R2
            have HAPP := Lib.hid (show dgn 256 17 (lo130 u') = dgn 256 16 (lo130 u') ++ [u' / 256 ^ j % 256 % 4] by rw [h17]; exact low_app16 u')
            have H17 := Lib.hid h17
            have HML := Lib.hid (show 16 + 1 ≤ maxLen by unfold maxLen; decide)
            have HMB := Lib.hid (show (16 + 1) * 8 ≤ 140737488355328 by decide)
            have hs0 : _ ≤ wr.heap.size := R2.bel.size
            clear R1 R2 h16 h17 hlt
            obtain ⟨d, hd⟩ : ∃ d, d = u' / 256 ^ j % 256 := ⟨_, rfl⟩
            rw [← hd] at ca0 hx HAPP
            have HXE := Lib.hid hd
            clear hd
            have HAL := Lib.hid (R3.out.low.alloc (.cells #[.int .i64 ((d : Int) % 4)] 3 (0, 0)))
            go_upto_region 10 with (at_builtin; refine wpList_append_lies _ rfl (.tmp 26) (.tmp 32) 105 rfl _ 3 i0 (.int .i64 0) 1 8 Tryz.underlying105 hi hz0 hz1 hz2 rfl (by decide) _ _ _ rfl HAL.out ⟨wr.heap.size, 0, none⟩ 1 1 [.int .i64 ((d : Int) % 4)] rfl rfl (one_cell wr _ _) (one_one _ rfl) (by decide) HML.out HMB.out (le_alloc hs0 _) (wr.heap.size + 1) (World.size_alloc _ _) ?_)
            intro g9 c9 w9 h1 h2 h3 h4
            have HR0 := R3.out.appLow (k1' := 17) _ (World.size_alloc _ _) (by rw [HAPP.out, evs_app]; exact h1) h2 h3
            generalize Value.slice (some ⟨g9, 0, none⟩) (16 + 1) c9 = xl at HR0 ⊢
            have HR := Lib.hid (show PRt wo u' 17 (j - 16) xl _ w9 from by rw [H17.out]; exact HR0)
            clear h1 h2 h3 h4 ca0 HR0 hs0 HAL HML HMB R3
            go_upto_region 10 with fail
            obtain ⟨wq, rfl⟩ : ∃ wq : World, wq = w9 := ⟨_, rfl⟩
          case' neg =>
            have k2 : ((j : Int) == 16) = false := by simp; omega
            have HR0 := R1.out
            rw [Nat.min_eq_right (by omega)] at HR0
            have HR := Lib.hid HR0
            clear R1 HR0 h16 h17 hlt
            obtain ⟨d, hd⟩ : ∃ d, d = u' / 256 ^ j % 256 := ⟨_, rfl⟩
            rw [← hd] at ca0 hx
            have HXE := Lib.hid hd
            clear hd ca0
            go_upto_region 10 with fail
            obtain ⟨wq, rfl⟩ : ∃ wq : World, wq = wr := ⟨_, rfl⟩
          all_goals
            have HCA := Lib.hid (HA.out wq HR.out.bel)
            have ca0 := HCA.out j HLT.out
            rw [← HXE.out] at ca0
            have hg := HG.out
            rw [← HXE.out] at hg
            have hyl := HYL.out
            have HML := Lib.hid (show j - 16 + 1 ≤ maxLen by have := HLT.out; have := HN60.out; unfold maxLen; omega)
            have HMB := Lib.hid (show (j - 16 + 1) * 8 ≤ 140737488355328 by have := HLT.out; have := HN60.out; omega)
            by_cases hj2 : j + 1 < n'
            case' pos =>
              have m1 : (j : Int) + 1 < n' := by omega
              have m0 : (0 : Int) ≤ (j : Int) + 1 := by omega
              have ca1 := HCA.out (j + 1) hj2
              rw [if_pos hj2] at hg
              generalize u' / 256 ^ (j + 1) % 256 = y at *
              have y1 : (y : Int) < 256 := by omega
              have y0 : (0 : Int) ≤ (y : Int) := by omega
              obtain ⟨S, hS⟩ : ∃ S : Nat, S = d / 4 + y % 4 * 64 := ⟨_, rfl⟩
              have qS : (d : Int) / 4 + (y : Int) % 4 * 64 = (S : Int) := by omega
            case' neg =>
              have m1 : ¬ (j : Int) + 1 < n' := by omega
              have m0 : (0 : Int) ≤ (j : Int) + 1 := by omega
              have ca1 : True := trivial
              rw [if_neg hj2] at hg
              have y1 : True := trivial
              have y0 : True := trivial
              obtain ⟨S, hS⟩ : ∃ S : Nat, S = d / 4 + 0 := ⟨_, rfl⟩
              have qS : (d : Int) / 4 = (S : Int) := by omega
            all_goals
              rw [← hS] at hg
              have S1 : (S : Int) < 256 := by omega
              have S0 : (0 : Int) ≤ (S : Int) := by omega
              have x1 : (d : Int) < 256 := by omega
              have x0 : (0 : Int) ≤ (d : Int) := by omega
              have HAP2 := HAPPH.out
              rw [← hg] at HAP2
              have HAN2 := HANY.out
              rw [← hg] at HAN2
              have HNEXT := Lib.hid (show ∀ (v : Value) (w1 : World), w1.ownsRow wo.heap.size 3 1 v (j - 16 + 1) (evs (dgn 256 (j - 16) (hi130 u')) ++ [.int .i64 (S : Int)]) → w1.ownsRow wo.heap.size 3 1 v (j + 1 - 16) (evs (dgn 256 (j + 1 - 16) (hi130 u'))) from by
                intro v w1 h
                rw [HAP2, evs_app, show j + 1 - 16 = j - 16 + 1 by have := H16.out; omega]
                exact h)
              have HAN3 := Lib.hid (show anyH u' (j + 1 - 16) = (anyH u' (j - 16) || decide (0 < S)) by rw [← HAN2, show j + 1 - 16 = j - 16 + 1 by have := H16.out; omega])
              have HAL := Lib.hid (HR.out.high.alloc (.cells #[.int .i64 (S : Int)] 3 (0, 0)))
              have hs0 : _ ≤ wq.heap.size := HR.out.bel.size
              clear hS hg HAP2 HAPPH HG HYL hyl hx HCA hj2 k2 HAN2 HANY
              go_upto_region 13 with fail
              clear ca0 ca1 x1 x0 y1 y0 qS m1 m0 k1
              go_wp2_with (at_builtin; refine wpList_append_lies _ rfl (.tmp 53) (.tmp 55) 105 rfl _ 3 i0 (.int .i64 0) 1 8 Tryz.underlying105 hi hz0 hz1 hz2 rfl (by decide) _ _ _ rfl HAL.out ⟨wq.heap.size, 0, none⟩ 1 1 [.int .i64 (S : Int)] rfl rfl (one_cell wq _ _) (one_one _ rfl) (by decide) HML.out HMB.out (le_alloc hs0 _) (wq.heap.size + 1) (World.size_alloc _ _) ?_)
              intro g8 c8 w8 h1 h2 h3 h4
              have HR8 := Lib.hid (HR.out.appHigh (k2' := j + 1 - 16) _ (World.size_alloc _ _) (HNEXT.out _ _ h1) h2 h3)
              clear h1 h2 h3 h4 hs0
              generalize Value.slice (some ⟨g8, 0, none⟩) (j - 16 + 1) c8 = yl at HR8 ⊢
              obtain ⟨mo, hmo⟩ : ∃ b, anyH u' (j - 16) = b := ⟨_, rfl⟩
              rw [hmo] at HAN3 ⊢
              clear hmo
              cases mo
              · by_cases hS : 0 < S
                case' pos => have s1 : (S : Int) > 0 := by omega
                case' neg => have s1 : ¬ (S : Int) > 0 := by omega
                all_goals
                  have HD9 := Lib.hid hS
                  clear hS
                  go_wp2_with fail
                  go_roundw
                  case rel => exact ⟨j + 1, HLT.out, by go_num, by rw [HAN3.out]; simp [HD9.out], by rw [Nat.min_eq_right (by have := H16.out; omega)]; exact HR8.out⟩
                  case measure => simp [intOf]; have := HLT.out; have := HN60.out; omega
              · go_wp2_with fail
                go_roundw
                case rel => exact ⟨j + 1, HLT.out, by go_num, by rw [HAN3.out]; rfl, by rw [Nat.min_eq_right (by have := H16.out; omega)]; exact HR8.out⟩
                case measure => simp [intOf]; have := HLT.out; have := HN60.out; omega
      · have j1 : ¬ (j : Int) < n' := by omega
        have hjn : j = n' := by have := HJ.out; omega
        have R2 := R1.out
        rw [hjn] at R2
        have HEND := Lib.hid (show anyH u' (j - 16) = decide (hi130 u' ≠ 0) from by
          refine anyH_end ?_
          rw [hjn]
          rcases Nat.lt_or_ge n' 16 with h | h
          · rw [hi_small HU.out (by omega)]; exact Nat.pow_pos (by decide)
          · exact hi_ltE HU.out h)
        have BW := Lib.hid (HD.out.bel.trans (R2.bel.mono HD.out.bel.size))
        rw [HEND.out]
        by_cases hz : hi130 u' = 0
        · rw [decide_eq_false (by simpa using hz)]
          have HSM := Lib.hid (fold_sameE hz)
          have HLT := Lib.hid (show u' < 1361129467683753853853498429727072845824 by rw [← HSM.out]; exact lo_ltE u')
          have HK0 := Lib.hid (show 1 ≤ min n' 17 ∧ min n' 17 ≤ 17 ∧ u' < 256 ^ (min n' 17) from by
            refine ⟨by have := HN0.out; omega, by omega, ?_⟩
            rcases Nat.le_total n' 17 with h | h
            · rw [Nat.min_eq_left h]; exact HU.out
            · rw [Nat.min_eq_right h]; exact Nat.lt_trans HLT.out (by decide))
          have hlow := R2.low
          rw [HSM.out] at hlow
          have HLOW := Lib.hid hlow
          have BW2 := Lib.hid R2.bel
          have HMO := Lib.hid HD.out.eq
          clear hlow R2 hz hjn hlt HEND R1
          go_wp2_with fail
          obtain ⟨w5, rfl⟩ : ∃ w5 : World, w5 = wr := ⟨_, rfl⟩
          go_loopw [0] (fun v wr => ∃ k : Nat, (1 ≤ k ∧ k ≤ 17 ∧ u' < 256 ^ k) ∧ wr.ownsRow wo.heap.size 3 1 v k (evs (dgn 256 k u')) ∧ Below wo.heap.size wo wr) (fun v _ => 17 - lenOfE v)
          case atStart => exact ⟨min n' 17, HK0.out, HLOW.out, BW2.out⟩
          case round =>
            obtain ⟨k, hk, ho, hb⟩ := hrel
            obtain ⟨g1, cp, rfl, -, -⟩ := ho.form (by omega)
            have HO := Lib.hid ho
            have HB := Lib.hid hb
            have HK := Lib.hid hk
            have hs0 : _ ≤ wr.heap.size := hb.size
            have kb : (k : Int) ≤ 17 := by omega
            clear ho hb hk HLOW HK0 BW2 BW
            by_cases hlt : k < 17
            · have m1 : (k : Int) < 17 := by omega
              have HLT2 := Lib.hid hlt
              have HAL := Lib.hid (HO.out.alloc (.cells #[.int .i64 0] 3 (0, 0)))
              have HML := Lib.hid (show k + 1 ≤ maxLen by unfold maxLen; omega)
              have HMB := Lib.hid (show (k + 1) * 8 ≤ 140737488355328 by omega)
              clear hlt
              go_wp2_with (at_builtin; refine wpList_append_lies _ rfl (.tmp 73) (.tmp 74) 105 rfl _ 3 i0 (.int .i64 0) 1 8 Tryz.underlying105 hi hz0 hz1 hz2 rfl (by decide) _ _ _ rfl HAL.out ⟨wr.heap.size, 0, none⟩ 1 1 [.int .i64 (0)] rfl rfl (one_cell wr _ _) (one_one _ rfl) (by decide) HML.out HMB.out (le_alloc hs0 _) (wr.heap.size + 1) (World.size_alloc _ _) ?_)
              intro g9 c9 w9 h1 h2 h3 h4
              have HB9 := Lib.hid (below_app HB.out _ _ _ _ _ HO.out h2)
              have HO9 := Lib.hid (show w9.ownsRow wo.heap.size 3 1 _ (k + 1) (evs (dgn 256 (k + 1) u')) from by
                rw [dg_succ, dig_zero HK.out.2.2 (by decide) (Nat.le_refl k), evs_app]; exact h1)
              clear h1 h2 h3 h4 hs0
              go_wp2_with fail
              go_roundw
              case rel => exact ⟨k + 1, ⟨by omega, by have := HLT2.out; omega, Nat.lt_of_lt_of_le HK.out.2.2 (Nat.pow_le_pow_right (by decide) (by omega))⟩, HO9.out, HB9.out⟩
              case measure => show 17 - (k + 1) < 17 - k; have := HLT2.out; omega
            · have m1 : ¬ (k : Int) < 17 := by omega
              have hk17 : k = 17 := by have := HK.out; omega
              subst hk17
              have DA := Lib.hid (show ES (wr.alloc (.cells #[.int .i64 5] 3 (0, 0))) wo.heap.size (.slice (some ⟨g1, 0, none⟩) 17 cp) 17 u' from (show ES wr _ _ _ _ from ⟨HO.out, HK.out.2.2, by decide, by decide⟩).on ((Below.refl _ _).alloc (Nat.le_refl _) _))
              have D5 := Lib.hid (show ES (wr.alloc (.cells #[.int .i64 5] 3 (0, 0))) wr.heap.size (.slice (some ⟨wr.heap.size, 0, none⟩) 1 1) 1 5 from ⟨World.ownsRow_lit (base := wr.heap.size) (e := 3) (size := 1) wr #[.int .i64 5] 1 (Nat.le_refl _) (by decide) rfl, by decide, by decide, by decide⟩)
              have HCAP := Lib.hid (own_cap HO.out)
              have BA := Lib.hid (show Below w.heap.size w (wr.alloc (.cells #[.int .i64 5] 3 (0, 0))) from below_alloc (HD.out.bel.trans (HB.out.mono HD.out.bel.size)) _)
              have F5 := Lib.hid (five_more HLT.out)
              clear hs0 hlt
              go_wp2_with fail
              refine (padd_any 17 1 u' 5 _ _ _ _ _ DA.out D5.out).mono ?_
              rintro e w7 ⟨hb7, r7, k2, rfl, p1, p2, p3, p4, ho7⟩
              have DA7 := Lib.hid (DA.out.on hb7)
              have B7 := Lib.hid (BA.out.trans (hb7.mono BA.out.size))
              obtain ⟨g2, c2, rfl, -, -⟩ := ho7.form (by omega)
              have HO7 := Lib.hid ho7
              have hc2 := own_cap ho7
              have cd : w7.cell? ⟨g2, 16, none⟩ = some (.int .i64 (((u' + 5) / 256 ^ 16 % 256 : Nat) : Int)) := by
                rw [ho7.cellAt 16 (by omega), evs, List.getElem?_map, dg_get _ _ _ _ (by omega)]
                rfl
              have fd := ho7.frozenAt 16
              have hx := dig_lt 256 (by decide) (u' + 5) 16
              have q1 : (k2 : Int) > 16 := by omega
              have q2 : (k2 : Int) ≤ 18 := by omega
              have q3 : (17 : Int) ≤ (c2 : Int) := by omega
              have q4 : (17 : Int) ≤ (cp : Int) := by have := HCAP.out.1; omega
              have HK2 := Lib.hid p1
              clear hb7 ho7 p1 p2 p3 p4 DA D5 BA hc2 HCAP
              obtain ⟨d, hd⟩ : ∃ d, d = (u' + 5) / 256 ^ 16 % 256 := ⟨_, rfl⟩
              rw [← hd] at cd hx
              have HDE := Lib.hid hd
              clear hd
              by_cases h3 : 3 < d
              · have z1 : (d : Int) > 3 := by omega
                have HP := (HO7.out.stored 16 (.int .i64 ((d : Int) - 4))).1
                have HT := own_takeE HP (m := 17) HK2.out
                have h3' : 3 < (u' + 5) / 256 ^ 16 % 256 := by rw [← HDE.out]; exact h3
                have e1 : ((evs (dgn 256 k2 (u' + 5))).set 16 (.int .i64 ((d : Int) - 4))).take 17 = evs (dgn 256 17 (u' % P130)) := by
                  rw [F5.out.2.2.1 (F5.out.2.1.1 h3'), ← dg_less h3' F5.out.1, List.take_set, evs_take, dgn_takeE _ _ _ _ HK2.out, ← HDE.out]
                  rw [show (d : Int) - 4 = ((d - 4 : Nat) : Int) by omega]
                  simp [evs, List.map_set]
                rw [e1] at HT
                have HRES := Lib.hid (show ES (w7.setCell ⟨g2, 16, none⟩ (.int .i64 ((d : Int) - 4))) 0 (.slice (some ⟨g2, 0, none⟩) 17 c2) 17 (u % P130) from by
                  rw [← HMO.out]
                  exact (show ES _ _ _ 17 (u' % P130) from ⟨HT, Nat.lt_trans (Nat.mod_lt _ (by decide)) (show P130 < 256 ^ 17 by decide), by decide, by decide⟩).base (Nat.zero_le _))
                have HBR := Lib.hid (show Below w.heap.size w (w7.setCell ⟨g2, 16, none⟩ (.int .i64 ((d : Int) - 4))) from B7.out.setCell (show w.heap.size ≤ g2 from Nat.le_trans (HD.out.bel.size) (by have := (own_cap HO7.out).2.2.1; rw [World.size_alloc] at this; have := HB.out.size; omega)) _)
                have d0 : (0 : Int) ≤ (d : Int) := by omega
                have d1 : (d : Int) < 256 := by omega
                clear HP HT h3' e1 h3 hx
                go_wp2_with fail
                go_ret
                exact ⟨HBR.out, _, rfl, HRES.out⟩
              · have z1 : ¬ (d : Int) > 3 := by omega
                have h3' : ¬ 3 < (u' + 5) / 256 ^ 16 % 256 := by rw [← HDE.out]; exact h3
                have HRES := Lib.hid (show ES w7 0 (.slice (some ⟨g1, 0, none⟩) 17 cp) 17 (u % P130) from by
                  rw [← HMO.out, F5.out.2.2.2 (Nat.lt_of_not_le fun h => h3' (F5.out.2.1.2 h))]
                  exact DA7.out.base (Nat.zero_le _))
                have d0 : (0 : Int) ≤ (d : Int) := by omega
                have d1 : (d : Int) < 256 := by omega
                clear h3' h3 hx fd
                go_wp2_with fail
                go_ret
                exact ⟨B7.out, _, rfl, HRES.out⟩
        · rw [decide_eq_true (by simpa using hz)]
          have H17 := Lib.hid (show 17 ≤ n' from Nat.lt_of_not_le fun h => hz (hi_small HU.out h))
          have HNZ := Lib.hid hz
          rw [Nat.min_eq_right H17.out] at R2
          obtain ⟨k0, hk0⟩ : ∃ k0, n' - 16 = k0 + 1 := ⟨n' - 17, by have := H17.out; omega⟩
          have HHI := Lib.hid (show hi130 u' < 256 ^ (k0 + 1) by rw [← hk0]; exact hi_ltE HU.out (by have := H17.out; omega))
          rw [hk0] at R2
          have HK0 := Lib.hid (show k0 + 1 ≤ 44 by have := HN60.out; omega)
          have DL0 := Lib.hid (show ES (wr.alloc (.cells #[.int .i64 5] 3 (0, 0))) wo.heap.size _ 17 (lo130 u') from (show ES wr _ _ _ _ from ⟨R2.low, lo_lt17 u', by decide, by decide⟩).on ((Below.refl _ _).alloc (Nat.le_refl _) _))
          have DH := Lib.hid (show ES (wr.alloc (.cells #[.int .i64 5] 3 (0, 0))) wo.heap.size _ (k0 + 1) (hi130 u') from (show ES wr _ _ _ _ from ⟨R2.high, HHI.out, by omega, by have := HK0.out; omega⟩).on ((Below.refl _ _).alloc (Nat.le_refl _) _))
          have D5 := Lib.hid (show ES (wr.alloc (.cells #[.int .i64 5] 3 (0, 0))) wr.heap.size (.slice (some ⟨wr.heap.size, 0, none⟩) 1 1) 1 5 from ⟨World.ownsRow_lit (base := wr.heap.size) (e := 3) (size := 1) wr #[.int .i64 5] 1 (Nat.le_refl _) (by decide) rfl, by decide, by decide, by decide⟩)
          have BA := Lib.hid (show Below w.heap.size w (wr.alloc (.cells #[.int .i64 5] 3 (0, 0))) from below_alloc BW.out _)
          clear hz hk0 R2 R1 hlt hjn HEND
          go_wp2_with fail
          refine (ptimes_any (k0 + 1) 1 (hi130 u') 5 _ _ _ _ _ DH.out D5.out).mono ?_
          rintro e w7 ⟨hb7, r7, rfl, ho7⟩
          have DT := Lib.hid (show ES w7 _ r7 (k0 + 1 + 1) (hi130 u' * 5) from ⟨ho7, prod_lt_pow HHI.out (by decide) (by decide), by omega, by have := HK0.out; omega⟩)
          have DL := Lib.hid (DL0.out.on hb7)
          have B7 := Lib.hid (BA.out.trans (hb7.mono BA.out.size))
          clear hb7 ho7 D5 DH DL0 BA
          go_wp2_with fail
          refine (padd_any 17 (k0 + 1 + 1) (lo130 u') (hi130 u' * 5) _ _ _ _ _ DL.out DT.out).mono ?_
          rintro e w8 ⟨hb8, r8, k2, rfl, p1, p2, p3, p4, ho8⟩
          have P8 := Lib.hid (show POt w u k2 (lo130 u' + hi130 u' * 5) r8 w8 from ⟨(show ES w8 _ r8 k2 _ from ⟨ho8, p4, by omega, by have := HK0.out; omega⟩).base (Nat.zero_le _), by have := HK0.out; omega, by rw [Nat.mul_comm, fold_modE]; exact HD.out.eq, B7.out.trans (hb8.mono B7.out.size)⟩)
          clear hb8 ho8 p1 p2 p3 p4 DT DL B7 HHI HK0
          go_wp2_with fail
          go_roundw
          case rel => exact ⟨_, _, P8.out⟩
          case measure => rw [HNUM.out, P8.out.dig.num]; have := fold_ltE HNZ.out; omega
end Go.Proofs.YtfckjilhkdlpfaaGreatDoor
