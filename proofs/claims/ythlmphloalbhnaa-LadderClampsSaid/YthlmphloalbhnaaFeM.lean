/-
  fe.Mul: the walk.
-/
import Derived.Test.YthlmphloalbhnaaFeL
import Derived.Test.YthlmphloalbhnaaMulP
import Derived.Shelf.Bits.Mul64
import Derived.Shelf.Spec.BitsCarry
namespace Go.Proofs.Ythlmphloalbhnaa
open Go.RowKit MS

def renM : Go.Shelf.Ren := ⟨fun n => if n = 264 then 40 else n, fun n => if n = 53 then 22 else if n = 46 then 42 else n, fun n => n⟩
def renA : Go.Shelf.Ren := ⟨fun n => if n = 25 then 41 else n, fun n => if n = 22 then 22 else n, fun n => n⟩
theorem laysM : Lays.n264 Try.prog renM := { mixed := by kernel_rfl, f264 := by kernel_rfl, t46 := by kernel_rfl, a46 := fun _ => by kernel_rfl, z46 := fun _ => by kernel_rfl, v46 := fun _ => by kernel_rfl, t53 := by kernel_rfl, a53 := fun _ => by kernel_rfl, z53 := fun _ => by kernel_rfl, v53 := fun _ => by kernel_rfl }
theorem laysA : Lays7.n25 Try.prog renA := { mixed := by kernel_rfl, f25 := by kernel_rfl, t22 := by kernel_rfl, a22 := fun _ => by kernel_rfl, z22 := fun _ => by kernel_rfl, v22 := fun _ => by kernel_rfl, i22 := by kernel_rfl }
theorem mul64_any (x y : Nat) (hx : x < 18446744073709551616) (hy : y < 18446744073709551616) (w : World) :
    Calls Try.prog 40 #[.int .u64 x, .int .u64 y] w fun e w' => e = .returned (.tuple #[.int .u64 ((x * y / 18446744073709551616 : Nat) : Int), .int .u64 ((x * y % 18446744073709551616 : Nat) : Int)]) ∧ w = w' :=
  (Any.bits_Mul64 laysM x y hx hy w).mono fun _ _ ⟨h1, h2⟩ => ⟨h1, h2.symm⟩
theorem add64_run (x y : Nat) (w : World) : (callFunc 41 #[.int .u64 x, .int .u64 y, .int .u64 0]).run Try.prog w = .ok (.value (.tuple #[.int .u64 (((x + y) % 18446744073709551616 : Nat) : Int), .int .u64 (((x + y) / 18446744073709551616 : Nat) : Int)])) w :=
  Any7.bits_Add64 laysA x y 0 (by decide) w
theorem run_index_rowF (T : TypeId) (hu : Try.prog.underlying T = some (.array 5 22)) (f : Nat → Nat) (j : Nat) (hj : j < 5) (w : World) : (Instr.index T (.agg (rowF f)) (.int .i64 j)).run Try.prog w = .ok (.int .u64 (f j : Nat)) w := by
  have hn : (0 : Int) ≤ j ∧ (j : Int) < 5 := by omega
  have hi : (Try.prog.info? 22).map (·.size) = some 1 := by kernel_rfl
  cases hq : Try.prog.info? 22 with
  | none => simp [hq] at hi
  | some i =>
    have hs : i.size = 1 := by simpa [hq] using hi
    simp [Instr.index, run_underlying hu, asIntOf, go_sem, sizeOf, typeInfo, hq, hs, hn]
    rw [if_pos hj, rowF_get f j hj]
    rfl
theorem rowF_high0 (X Y : Nat → Nat) : rowF (highF (outr X Y 0)) = #[.int .u64 0, .int .u64 0, .int .u64 0, .int .u64 0, .int .u64 0] := by simp [rowF, highF, outr]
theorem rowF_low0 (X Y : Nat → Nat) : rowF (lowF (outr X Y 0)) = #[.int .u64 0, .int .u64 0, .int .u64 0, .int .u64 0, .int .u64 0] := by simp [rowF, lowF, outr]
theorem rowF_zero : rowF (fun _ => 0) = #[.int .u64 0, .int .u64 0, .int .u64 0, .int .u64 0, .int .u64 0] := rfl
theorem or51 (n : Nat) (h : n < 649037107316853453566312041152512) : bits .or .u64 (((n / 18446744073709551616 : Nat) : Int) * 8192) ((n % 18446744073709551616 / 2251799813685248 : Nat) : Int) = ((n / 2251799813685248 : Nat) : Int) := by
  have h1 : n / 18446744073709551616 < 35184372088832 := by omega
  have h2 : n % 18446744073709551616 / 2251799813685248 < 8192 := by omega
  have := u64_or_nat (n / 18446744073709551616 * 8192) (n % 18446744073709551616 / 2251799813685248) (by omega) (by omega)
  rw [Int.natCast_mul, show ((8192 : Nat) : Int) = 8192 from rfl] at this
  rw [this, show (8192 : Nat) = 2 ^ 13 from rfl, ← Nat.shiftLeft_eq, ← Nat.shiftLeft_add_eq_or_of_lt (by omega), Nat.shiftLeft_eq]
  congr 1
  omega
theorem prd_le' {F : Nat → Nat} (hF : ∀ k, k < 5 → F k < 649037107316853453566312041152512) (k : Nat) (hk : k ≤ 4) (i : Nat) : prd F k i ≤ 1161928703861587968 := by
  have h := prd_le (F := fun k => if k < 5 then F k else 0) (fun k => by show (if k < 5 then F k else 0) < _; split; exact hF k ‹_›; decide) k hk i
  have e : ∀ k, k ≤ 4 → prd (fun k => if k < 5 then F k else 0) k = prd F k := by
    intro k hk
    induction k with
    | zero => rfl
    | succ k ih => rw [prd, prd, ih (by omega), if_pos (show k < 5 by omega)]
  rw [e k hk] at h
  refine Nat.le_trans h ?_
  have := Nat.mul_le_mul_right 290482175965396992 hk
  omega
theorem outr_row (x y : N5) (F : Nat → Nat) (h : F 0 = col0 x y ∧ F 1 = col1 x y ∧ F 2 = col2 x y ∧ F 3 = col3 x y ∧ F 4 = col4 x y) : rowF (prd F 5) = nvA (mulN x y) := by
  obtain ⟨h0, h1, h2, h3, h4⟩ := h
  obtain ⟨p0, p1, p2, p3, p4⟩ := prd_end F
  unfold rowF nvA mulN folded
  simp only [p0, p1, p2, p3, p4, h0, h1, h2, h3, h4]
theorem outr_lt (x y : N5) (F : Nat → Nat) (h : F 0 = col0 x y ∧ F 1 = col1 x y ∧ F 2 = col2 x y ∧ F 3 = col3 x y ∧ F 4 = col4 x y)
    (hc : col0 x y < 649037107316853453566312041152512 ∧ col1 x y < 649037107316853453566312041152512 ∧ col2 x y < 649037107316853453566312041152512 ∧ col3 x y < 649037107316853453566312041152512 ∧ col4 x y < 649037107316853453566312041152512) (k : Nat) (hk : k < 5) : F k < 649037107316853453566312041152512 := by
  obtain ⟨h0, h1, h2, h3, h4⟩ := h
  obtain ⟨c0, c1, c2, c3, c4⟩ := hc
  have : k = 0 ∨ k = 1 ∨ k = 2 ∨ k = 3 ∨ k = 4 := by omega
  rcases this with rfl | rfl | rfl | rfl | rfl
  · rw [h0]; exact c0
  · rw [h1]; exact c1
  · rw [h2]; exact c2
  · rw [h3]; exact c3
  · rw [h4]; exact c4

set_option maxRecDepth 100000 in
set_option maxHeartbeats 3000000 in
theorem femul_any (x y : N5) (hx : x.ok) (hy : y.ok) (w : World) :
    Calls Try.prog 17 #[.agg (nvA x), .agg (nvA y)] w fun e w' => e = .returned (.agg (nvA (mul x y))) ∧ Below w.heap.size w w' := by
  have NX := Lib.hid (fun w => narrow_any x hx w)
  have NY := Lib.hid (fun w => narrow_any y hy w)
  have R0 := Lib.hid (rw3 w (nvA x) (nvA y) #[.int .u64 0, .int .u64 0, .int .u64 0, .int .u64 0, .int .u64 0])
  have IX := Lib.hid (infoV x)
  have IY := Lib.hid (infoV y)
  have SX := Lib.hid (size_nvA x)
  have SY := Lib.hid (size_nvA y)
  have BX := Lib.hid (nar_get (narrow_nar hx))
  have BY := Lib.hid (nar_get (narrow_nar hy))
  generalize hrx : nvA x = rx at NX R0 IX SX ⊢
  generalize hry : nvA y = ry at NY R0 IY SY ⊢
  clear hrx hry
  go_enter Try.func17, Try.ntmps17
  go_wp2_with fail
  generalize ((w.alloc (.cells rx 24 (0, 0))).alloc (.cells ry 24 (0, 0))).alloc (.cells #[.int .u64 0, .int .u64 0, .int .u64 0, .int .u64 0, .int .u64 0] 24 (0, 0)) = W at R0 ⊢
  refine wp_region_below_tail 4 (by kernel_rfl) (by kernel_rfl) ?_
  simp only [List.take_succ_cons, List.take_zero, List.drop_succ_cons, List.drop_zero]
  refine wpQuiet_load_row rfl 24 (.tmp 2) rfl w.heap.size rfl 24 rx (0, 0) _ ?hC Try.underlying24 rfl IX.out ?_
  case hC => rintro w' ⟨p, rfl⟩; exact (R0.out.on p.2).row 0
  simp only [Act.put, List.setIfInBounds_toArray, List.set_cons_zero, List.set_cons_succ]
  go_big_quiet_step (exact calls_below (NX.out _))
  refine wpQuiet_load_row rfl 24 (.tmp 3) rfl (w.heap.size + 1) rfl 24 ry (0, 0) _ ?hC2 Try.underlying24 rfl IY.out ?_
  case hC2 => rintro w' ⟨p, rfl⟩; exact (R0.out.on p.2).row 1
  simp only [Act.put, List.setIfInBounds_toArray, List.set_cons_zero, List.set_cons_succ]
  go_big_quiet_step (exact calls_below (NY.out _))
  refine wpQuiet_nil ?_
  rintro _ ⟨p, rfl⟩
  have R1 := Lib.hid (R0.out.on p.2)
  generalize p.1 = wp at R1 ⊢
  have R2 := Lib.hid ((R1.out.store 0 (nvA (narrow x))).store 1 (nvA (narrow y)))
  have R1' := Lib.hid (R1.out.store 0 (nvA (narrow x)))
  have INX := Lib.hid (infoV (narrow x))
  have INY := Lib.hid (infoV (narrow y))
  have ONX := Lib.hid (one_nvA (narrow x))
  have ONY := Lib.hid (one_nvA (narrow y))
  have LX := Lib.hid (show rx.size = (nvA (narrow x)).size by rw [SX.out]; rfl)
  have LY := Lib.hid (show ry.size = (nvA (narrow y)).size by rw [SY.out]; rfl)
  go_upto_region 2 with (first
    | (with_reducible refine wpList_store_row rfl 24 (.tmp 2) (.tmp 19) rfl w.heap.size (nvA (narrow x)) rfl rfl 24 rx ?hg1 INX.out LX.out ONX.out ?_)
    | (with_reducible refine wpList_store_row rfl 24 (.tmp 3) (.tmp 21) rfl (w.heap.size + 1) (nvA (narrow y)) rfl rfl 24 ry ?hg2 INY.out LY.out ONY.out ?_))
  case hg1 => exact R1.out.row 0
  case hg2 => exact R1'.out.row 1
  generalize (World.setRow wp w.heap.size (nvA (narrow x))).setRow (w.heap.size + 1) (nvA (narrow y)) = w2 at R2 ⊢
  have R2 := Lib.hid (show Rw w [(w.heap.size, rowF (getN (narrow x)), 24), (w.heap.size + 1, rowF (getN (narrow y)), 24), (w.heap.size + 1 + 1, #[.int .u64 0, .int .u64 0, .int .u64 0, .int .u64 0, .int .u64 0], 24)] w2 from R2.out)
  clear R0 R1 R1' NX NY IX IY INX INY ONX ONY LX LY SX SY
  have NF := Lib.hid (fun w => narrow_any (mulN (narrow x) (narrow y)) (mulN_ok (narrow_nar hx) (narrow_nar hy)) w)
  have HOP := Lib.hid (show mul x y = narrow (mulN (narrow x) (narrow y)) from rfl)
  have hcol := outr_end (narrow x) (narrow y) (getN (narrow x)) (getN (narrow y)) ⟨rfl, rfl, rfl, rfl, rfl⟩ ⟨rfl, rfl, rfl, rfl, rfl⟩
  have hclt := cols_lt (narrow_nar hx) (narrow_nar hy)
  have HCOL := Lib.hid (outr_row (narrow x) (narrow y) _ hcol)
  have HCLT := Lib.hid (outr_lt (narrow x) (narrow y) _ hcol hclt)
  generalize hX : getN (narrow x) = X at *
  generalize hY : getN (narrow y) = Y at *
  generalize mulN (narrow x) (narrow y) = S at NF HOP HCOL
  clear hX hY hx hy hcol hclt
  generalize hA : w.heap.size = ga at *
  generalize hB : ga + 1 = gb at *
  generalize hC : gb + 1 = gc at *
  clear hA hB hC
  go_upto_region 3 with fail
  have r3 := (R2.out.alloc #[.int .u64 0, .int .u64 0, .int .u64 0, .int .u64 0, .int .u64 0] 23).alloc #[.int .u64 0, .int .u64 0, .int .u64 0, .int .u64 0, .int .u64 0] 23
  rw [World.size_alloc] at r3
  simp only [List.cons_append, List.nil_append] at r3
  generalize (w2.alloc (.cells #[.int .u64 0, .int .u64 0, .int .u64 0, .int .u64 0, .int .u64 0] 23 (0, 0))).alloc (.cells #[.int .u64 0, .int .u64 0, .int .u64 0, .int .u64 0, .int .u64 0] 23 (0, 0)) = w3 at r3 ⊢
  generalize w2.heap.size + 1 = gl at r3 ⊢
  generalize w2.heap.size = gh at r3 ⊢
  have R3 := Lib.hid (show Rw w [(ga, rowF X, 24), (gb, rowF Y, 24), (gc, rowF (fun _ => 0), 24), (gh, rowF (highF (outr X Y 0)), 23), (gl, rowF (lowF (outr X Y 0)), 23)] w3 from by rw [rowF_high0, rowF_low0, rowF_zero]; exact r3)
  have RA := Lib.hid (r3.row 0)
  have IX := Lib.hid (infoN X)
  have IY := Lib.hid (infoN Y)
  clear r3 R2
  go_wp2_with (with_reducible refine wpList_load_row rfl 24 (.tmp 2) rfl ga rfl 24 (rowF X) (0, 0) _ RA.out Try.underlying24 rfl IX.out ?_)
  clear RA
  go_loopw [23] (fun c wr => ∃ i : Nat, i ≤ 5 ∧ c = .int .i64 i ∧ Rw w [(ga, rowF X, 24), (gb, rowF Y, 24), (gc, rowF (fun _ => 0), 24), (gh, rowF (highF (outr X Y i)), 23), (gl, rowF (lowF (outr X Y i)), 23)] wr) (fun c _ => 5 - (intOf c).toNat)
  case atStart => exact ⟨0, by omega, rfl, R3.out⟩
  case round =>
    obtain ⟨i, hi, rfl, hr⟩ := hrel
    have R4 := Lib.hid hr
    have RB := Lib.hid (hr.row 1)
    clear hr R3
    by_cases hlt : i < 5
    · have i1 : (i : Int) < 5 := by omega
      have i0 : (0 : Int) ≤ i := by omega
      have hix := fun w => run_index_rowF 24 Try.underlying24 X i hlt w
      have HI := Lib.hid hlt
      clear hlt hi
      go_wp2_with (with_reducible refine wpList_load_row rfl 24 (.tmp 3) rfl gb rfl 24 (rowF Y) (0, 0) _ RB.out Try.underlying24 rfl IY.out ?_)
      clear hix RB
      obtain ⟨wo, rfl⟩ : ∃ wo : World, wo = wr := ⟨_, rfl⟩
      go_loopw [28] (fun c wr => ∃ j : Nat, j ≤ 5 ∧ c = .int .i64 j ∧ Rw w [(ga, rowF X, 24), (gb, rowF Y, 24), (gc, rowF (fun _ => 0), 24), (gh, rowF (highF (inn X Y (outr X Y i) i j)), 23), (gl, rowF (lowF (inn X Y (outr X Y i) i j)), 23)] wr) (fun c _ => 5 - (intOf c).toNat)
      case atStart => exact ⟨0, by omega, rfl, R4.out⟩
      case round =>
        obtain ⟨j, hj, rfl, hr⟩ := hrel
        have R5 := Lib.hid hr
        clear hr R4
        by_cases hlt : j < 5
        · have j1 : (j : Int) < 5 := by omega
          have j0 : (0 : Int) ≤ j := by omega
          have hiy := fun w => run_index_rowF 24 Try.underlying24 Y j hlt w
          have hk5 := ix_lt HI.out hlt
          have ch := R5.out.cell 3 (ix i j) (rowF_get _ _ hk5)
          have cl := R5.out.cell 4 (ix i j) (rowF_get _ _ hk5)
          have fl := R5.out.free 4 (ix i j)
          have HG := Lib.hid (inn_lt BX.out BY.out HI.out hj (ix i j))
          have HJ := Lib.hid hlt
          have hmid := R5.out.put 4 (ix i j) (.int .u64 (((inn X Y (outr X Y i) i j (ix i j) + tm X Y i j) % 18446744073709551616 : Nat) : Int))
          have ch2 := hmid.cell 3 (ix i j) (rowF_get _ _ hk5)
          have fh2 := hmid.free 3 (ix i j)
          clear hmid
          have hput := (R5.out.put 4 (ix i j) (.int .u64 (((inn X Y (outr X Y i) i j (ix i j) + tm X Y i j) % 18446744073709551616 : Nat) : Int))).put 3 (ix i j) (.int .u64 (((inn X Y (outr X Y i) i j (ix i j) + tm X Y i j) / 18446744073709551616 : Nat) : Int))
          rw [rowF_set _ _ _ hk5, rowF_set _ _ _ hk5, lowF_upd, highF_upd] at hput
          have PUT := Lib.hid hput
          clear hput
          have HBX := Lib.hid (BX.out i)
          have HBY := Lib.hid (BY.out j)
          obtain ⟨k, hk⟩ : ∃ k, ix i j = k := ⟨_, rfl⟩
          rw [hk] at ch cl fl ch2 fh2 HG PUT
          obtain ⟨f, hf⟩ : ∃ f, inn X Y (outr X Y i) i j k = f := ⟨_, rfl⟩
          rw [hf] at HG PUT ch2 fh2
          rw [show highF (inn X Y (outr X Y i) i j) k = f / 18446744073709551616 from by rw [← hf]; rfl] at ch ch2
          rw [show lowF (inn X Y (outr X Y i) i j) k = f % 18446744073709551616 from by rw [← hf]; rfl] at cl
          obtain ⟨y', hy'⟩ : ∃ y', (if i + j ≥ 5 then Y j * 19 else Y j) = y' := ⟨_, rfl⟩
          have hp : tm X Y i j = X i * y' := by rw [tm, hy']
          rw [hp] at PUT ch2 fh2
          have HY' := Lib.hid (show y' < 18446744073709551616 by rw [← hy']; have := HBY.out; split <;> omega)
          have HT := Lib.hid (show X i * y' ≤ TB by rw [← hp]; exact tm_le BX.out BY.out i j)
          have M := Lib.hid (fun w => mul64_any (X i) y' (by have := HBX.out; omega) HY'.out w)
          have HUP := Lib.hid (show upd (inn X Y (outr X Y i) i j) k (f + X i * y') = inn X Y (outr X Y i) i (j + 1) by rw [inn, hk, hf, hp])
          have hadd := add64_run (f % 18446744073709551616) (X i * y' % 18446744073709551616)
          rw [← two_low] at hadd
          have hs : (f + X i * y') / 18446744073709551616 = _ := two_high f (X i * y')
          have b1 : f / 18446744073709551616 < 200000000000000000 := by have := HG.out; omega
          have b2 : X i * y' / 18446744073709551616 < 200000000000000000 := by have := HT.out; unfold TB at this; omega
          have b3 : (f % 18446744073709551616 + X i * y' % 18446744073709551616) / 18446744073709551616 ≤ 1 := by omega
          rw [HUP.out] at PUT
          clear hf hp HT HUP
          by_cases h5 : i + j ≥ 5
          case' pos =>
            have q5 : (i : Int) + (j : Int) ≥ 5 := by omega
            have qk : (i : Int) + (j : Int) - 5 = (k : Int) := by rw [← hk, ix, if_pos h5]; omega
            have qy : (Y j : Int) * 19 = (y' : Int) := by rw [← hy', if_pos h5]; omega
            have qb : (Y j : Int) * 19 ≤ 100000000000000000 := by have := HBY.out; omega
          case' neg =>
            have q5 : ¬ ((i : Int) + (j : Int) ≥ 5) := by omega
            have qk : (i : Int) + (j : Int) = (k : Int) := by rw [← hk, ix, if_neg h5]; omega
            have qy : Y j = y' := by rw [← hy', if_neg h5]
            have qb : True := trivial
            rw [qy] at hiy
          all_goals
            have qs : ((f / 18446744073709551616 : Nat) : Int) + (((X i * y' / 18446744073709551616 : Nat) : Int) + (((f % 18446744073709551616 + X i * y' % 18446744073709551616) / 18446744073709551616 : Nat) : Int)) = (((f + X i * y') / 18446744073709551616 : Nat) : Int) := by rw [hs]; omega
            have kn : (k : Int) < 5 := by rw [← hk]; have := ix_lt HI.out HJ.out; omega
            have k0 : (0 : Int) ≤ k := by omega
            have hk9 := Lib.hid hk
            generalize (f + X i * y') / 18446744073709551616 = nh at *
            generalize (f + X i * y') % 18446744073709551616 = nl at *
            generalize (f % 18446744073709551616 + X i * y' % 18446744073709551616) / 18446744073709551616 = cc at *
            generalize f % 18446744073709551616 = f0 at *
            generalize f / 18446744073709551616 = f1 at *
            generalize X i * y' % 18446744073709551616 = p0 at *
            generalize X i * y' / 18446744073709551616 = p1 at *
            generalize X i = xi at *
            clear hs hk hy' h5 hj hlt
            go_wp2_with fail
            refine (M.out _).mono ?_
            rintro e w8 ⟨rfl, rfl⟩
            go_wp2_with fail
            go_roundw
            case rel => exact ⟨j + 1, by have := HJ.out; omega, by go_num, PUT.out⟩
            case measure => simp [intOf]; have := HJ.out; omega
        · have j1 : ¬ ((j : Int) < 5) := by omega
          have hj5 : j = 5 := by omega
          have r6 := R5.out
          rw [hj5] at r6
          have R6 := Lib.hid (show Rw w [(ga, rowF X, 24), (gb, rowF Y, 24), (gc, rowF (fun _ => 0), 24), (gh, rowF (highF (outr X Y (i + 1))), 23), (gl, rowF (lowF (outr X Y (i + 1))), 23)] wr from r6)
          clear r6 hj5 hlt hj
          go_wp2_with fail
          go_roundw
          case rel => exact ⟨i + 1, by have := HI.out; omega, by go_num, R6.out⟩
          case measure => simp [intOf]; have := HI.out; omega
    · have i1 : ¬ ((i : Int) < 5) := by omega
      have hi5 : i = 5 := by omega
      have r5 := R4.out
      rw [hi5] at r5
      generalize outr X Y 5 = F at HCOL HCLT r5
      clear hi5 hlt hi RB BX BY
      go_upto_region 20 with fail
      have r6 := r5.alloc #[.int .u64 0, .int .u64 0, .int .u64 0, .int .u64 0, .int .u64 0] 24
      generalize wr.alloc (.cells #[.int .u64 0, .int .u64 0, .int .u64 0, .int .u64 0, .int .u64 0] 24 (0, 0)) = w6 at r6 ⊢
      generalize wr.heap.size = gp at r6 ⊢
      have R6 := Lib.hid (show Rw w [(ga, rowF X, 24), (gb, rowF Y, 24), (gc, rowF (fun _ => 0), 24), (gh, rowF (highF F), 23), (gl, rowF (lowF F), 23), (gp, rowF (prd F 0), 24)] w6 from r6)
      clear r5 r6 R4
      go_wp2_with fail
      go_loopw [67] (fun c wr => ∃ k : Nat, k ≤ 5 ∧ c = .int .i64 k ∧ Rw w [(ga, rowF X, 24), (gb, rowF Y, 24), (gc, rowF (fun _ => 0), 24), (gh, rowF (highF F), 23), (gl, rowF (lowF F), 23), (gp, rowF (prd F k), 24)] wr) (fun c _ => 5 - (intOf c).toNat)
      case atStart => exact ⟨0, by omega, rfl, R6.out⟩
      case round =>
        obtain ⟨k, hk, rfl, hr⟩ := hrel
        have R7 := Lib.hid hr
        clear hr R6
        by_cases hlt : k < 5
        · have k1 : (k : Int) < 5 := by omega
          have k0 : (0 : Int) ≤ k := by omega
          have HK := Lib.hid hlt
          have ch := R7.out.cell 3 k (rowF_get _ _ hlt)
          have cl := R7.out.cell 4 k (rowF_get _ _ hlt)
          have HFB := Lib.hid (HCLT.out k hlt)
          have HPB := Lib.hid (prd_le' HCLT.out k (by omega) k)
          have HPB1 := Lib.hid (prd_le' HCLT.out k (by omega) (k + 1))
          have HPB0 := Lib.hid (prd_le' HCLT.out k (by omega) 0)
          rw [show highF F k = F k / 18446744073709551616 from rfl] at ch
          rw [show lowF F k = F k % 18446744073709551616 from rfl] at cl
          have bf1 : F k / 18446744073709551616 < 35184372088832 := by have := HFB.out; omega
          have hor := or51 (F k) HFB.out
          have hand := and51 (F k % 18446744073709551616) (Nat.mod_lt _ (by decide))
          rw [show F k % 18446744073709551616 % 2251799813685248 = F k % 2251799813685248 by omega] at hand
          have HC := Lib.hid (show F k / 2251799813685248 < 288230376151711744 from Nat.div_lt_of_lt_mul HFB.out)
          have HL := Lib.hid (show F k % 2251799813685248 < 2251799813685248 from Nat.mod_lt _ (by decide))
          have bsm : ((F k % 18446744073709551616 : Nat) : Int) / 2251799813685248 = ((F k % 18446744073709551616 / 2251799813685248 : Nat) : Int) := by omega
          obtain ⟨cr, hcr⟩ : ∃ c, F k / 2251799813685248 = c := ⟨_, rfl⟩
          obtain ⟨lo, hlo⟩ : ∃ c, F k % 2251799813685248 = c := ⟨_, rfl⟩
          rw [hcr] at hor HC
          rw [hlo] at hand HL
          have HCR := Lib.hid hcr
          have HLO := Lib.hid hlo
          generalize F k % 18446744073709551616 / 2251799813685248 = f2 at bsm hor
          obtain ⟨f0, hf0⟩ : ∃ c, F k % 18446744073709551616 = c := ⟨_, rfl⟩
          rw [hf0] at cl hand bsm
          have HF0 := Lib.hid hf0
          clear hf0
          generalize F k / 18446744073709551616 = f1 at ch hor bf1
          clear hcr hlo hlt hk
          go_upto_region 23 with fail
          go_quiet (fail)
          have R8 := Lib.hid (R7.out.drewN nq)
          generalize wr.drewN nq = w8 at R8 ⊢
          have cp := R8.out.cell 5 k (rowF_get _ _ HK.out)
          have cl := R8.out.cell 4 k (rowF_get _ _ HK.out)
          have fp := R8.out.free 5 k
          rw [show lowF F k = F k % 18446744073709551616 from rfl, HF0.out] at cl
          have put := (R8.out.put 5 k (.int .u64 ((prd F k k + F k % 2251799813685248 : Nat) : Int))).drew
          rw [rowF_set _ _ _ HK.out] at put
          have hs : ((prd F k k + F k % 2251799813685248 : Nat) : Int) = (prd F k k : Int) + (lo : Int) := by rw [HLO.out]; omega
          have PUT := Lib.hid (show _ from put)
          rw [hs] at PUT
          have bp : prd F k k ≤ 1161928703861587968 := HPB.out
          have blo := HL.out
          obtain ⟨pk, hpk⟩ : ∃ c, prd F k k = c := ⟨_, rfl⟩
          rw [hpk] at cp bp PUT
          have HPK := Lib.hid hpk
          clear hpk
          clear put hs bsm hor ch bf1
          go_upto_region 24 with fail
          go_still_tail 9, (by kernel_rfl)
          go_upto_region 25 with fail
          generalize (w8.setCell ⟨gp, k, none⟩ (.int .u64 ((pk : Int) + (lo : Int)))).drew = w9 at PUT ⊢
          have R9 := Lib.hid (show Rw w [(ga, rowF X, 24), (gb, rowF Y, 24), (gc, rowF (fun _ => 0), 24), (gh, rowF (highF F), 23), (gl, rowF (lowF F), 23), (gp, rowF (upd (prd F k) k (prd F k k + F k % 2251799813685248)), 24)] w9 from by rw [HPK.out]; exact PUT.out)
          clear PUT cp fp cl bp blo hand
          by_cases h4 : k + 1 < 5
          · have q4 : (k : Int) + 1 < 5 := by omega
            have cq := R9.out.cell 5 (k + 1) (rowF_get _ _ h4)
            have fq := R9.out.free 5 (k + 1)
            have eu : upd (prd F k) k (prd F k k + F k % 2251799813685248) (k + 1) = prd F k (k + 1) := by unfold upd; rw [if_neg (by omega)]
            have put := R9.out.put 5 (k + 1) (.int .u64 ((upd (prd F k) k (prd F k k + F k % 2251799813685248) (k + 1) + F k / 2251799813685248 : Nat) : Int))
            rw [rowF_set _ _ _ h4, show upd (upd (prd F k) k (prd F k k + F k % 2251799813685248)) (k + 1) (upd (prd F k) k (prd F k k + F k % 2251799813685248) (k + 1) + F k / 2251799813685248) = prd F (k + 1) by rw [prd, if_pos h4], eu, show ((prd F k (k + 1) + F k / 2251799813685248 : Nat) : Int) = (prd F k (k + 1) : Int) + (cr : Int) by rw [HCR.out]; omega] at put
            rw [eu] at cq
            have bq : prd F k (k + 1) ≤ 1161928703861587968 := HPB1.out
            have bcr := HC.out
            have PUT2 := Lib.hid put
            generalize prd F k (k + 1) = pq at cq bq PUT2
            have HK4 := Lib.hid h4
            clear put eu h4
            go_wp2_with fail
            go_roundw
            case rel => exact ⟨k + 1, by have := HK.out; omega, by go_num, PUT2.out⟩
            case measure => simp [intOf]; have := HK.out; omega
          · have q4 : ¬ ((k : Int) + 1 < 5) := by omega
            have cq := R9.out.cell 5 0 (rowF_get _ _ (by decide))
            have fq := R9.out.free 5 0
            have eu : upd (prd F k) k (prd F k k + F k % 2251799813685248) 0 = prd F k 0 := by unfold upd; rw [if_neg (by omega)]
            have put := R9.out.put 5 0 (.int .u64 ((upd (prd F k) k (prd F k k + F k % 2251799813685248) 0 + 19 * (F k / 2251799813685248) : Nat) : Int))
            rw [rowF_set _ _ _ (by decide), show upd (upd (prd F k) k (prd F k k + F k % 2251799813685248)) 0 (upd (prd F k) k (prd F k k + F k % 2251799813685248) 0 + 19 * (F k / 2251799813685248)) = prd F (k + 1) by rw [prd, if_neg h4], eu, show ((prd F k 0 + 19 * (F k / 2251799813685248) : Nat) : Int) = (prd F k 0 : Int) + 19 * (cr : Int) by rw [HCR.out]; omega] at put
            rw [eu] at cq
            have bq : prd F k 0 ≤ 1161928703861587968 := HPB0.out
            have bcr := HC.out
            have PUT2 := Lib.hid put
            generalize prd F k 0 = pq at cq bq PUT2
            have HK4 := Lib.hid h4
            clear put eu h4
            go_wp2_with fail
            go_roundw
            case rel => exact ⟨k + 1, by have := HK.out; omega, by go_num, PUT2.out⟩
            case measure => simp [intOf]; have := HK.out; omega
        · have k1 : ¬ ((k : Int) < 5) := by omega
          have hk5 : k = 5 := by omega
          have r8 := R7.out
          rw [hk5, HCOL.out] at r8
          have R8 := Lib.hid r8
          have RP := Lib.hid (r8.row 5)
          have IS := Lib.hid (infoV S)
          have IN := Lib.hid (infoV (narrow S))
          have ON := Lib.hid (one_nvA (narrow S))
          have LN := Lib.hid (show (rowF (fun _ => 0)).size = (nvA (narrow S)).size from rfl)
          clear r8 hk5 hlt hk R7
          go_wp2_with (with_reducible refine wpList_load_row rfl 24 (.tmp 15) rfl gp rfl 24 (nvA S) (0, 0) _ RP.out Try.underlying24 rfl IS.out ?_)
          refine (NF.out _).mono ?_
          rintro e w10 ⟨rfl, hb5⟩
          have R10 := Lib.hid (R8.out.on hb5)
          have RC := Lib.hid (R10.out.row 2)
          clear hb5
          go_wp2_with (with_reducible refine wpList_store_row rfl 24 (.tmp 4) (.tmp 106) rfl gc (nvA (narrow S)) rfl rfl 24 (rowF (fun _ => 0)) RC.out IN.out LN.out ON.out ?_)
          have R11 := R10.out.store 2 (nvA (narrow S))
          rw [HOP.out]
          exact bodyPost_ret (results_cell_row rfl _ _ gc 24 (nvA (narrow S)) (0, 0) _ rfl (R11.row 2) Try.underlying24 rfl IN.out) rfl ⟨rfl, R11.bel⟩
end Go.Proofs.Ythlmphloalbhnaa
