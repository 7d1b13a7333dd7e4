/-
  sha.schedule: the 64 words of a block.
-/
import Derived.Test.YtkbfflnjbafamaaDoorShaR
namespace Go.Proofs.YtkbfflnjbafamaaDoor
open Go.RowKit MS

def s0 (x : W32) : W32 := x.rotateLeft 25 ^^^ x.rotateLeft 14 ^^^ x >>> 3
def s1 (y : W32) : W32 := y.rotateLeft 15 ^^^ y.rotateLeft 13 ^^^ y >>> 10
def be (s : ByteArray) (i : Nat) : W32 := beN ((ls s).getD (4 * i) 0).toNat ((ls s).getD (4 * i + 1) 0).toNat ((ls s).getD (4 * i + 2) 0).toNat ((ls s).getD (4 * i + 3) 0).toNat
def ws1 (b : Nat → W32) : Nat → Array W32
  | 0 => Array.replicate 64 0
  | i + 1 => (ws1 b i).setIfInBounds i (b i)
def nxt (p : Array W32) (t : Nat) : W32 := p.getD (t - 16) 0 + s0 (p.getD (t - 15) 0) + p.getD (t - 7) 0 + s1 (p.getD (t - 2) 0)
def ws2 (p : Array W32) : Nat → Array W32
  | 0 => p
  | i + 1 => (ws2 p i).setIfInBounds (16 + i) (nxt (ws2 p i) (16 + i))
def sch (b : Nat → W32) : Array W32 := ws2 (ws1 b 16) 48
theorem size_ws1 (b : Nat → W32) (i : Nat) : (ws1 b i).size = 64 := by
  induction i with
  | zero => simp [ws1]
  | succ i ih => simp [ws1, ih]
theorem size_ws2 (p : Array W32) (i : Nat) : (ws2 p i).size = p.size := by
  induction i with
  | zero => rfl
  | succ i ih => simp [ws2, ih]
theorem size_sch (b : Nat → W32) : (sch b).size = 64 := by rw [sch, size_ws2, size_ws1]

structure SSt (w0 : World) (p : Array W32) (w : World) : Prop where
  r0 : w.heap[w0.heap.size]? = some (.cells (rowW (Array.replicate 64 0)) 48 (0, 0))
  r1 : w.heap[w0.heap.size + 1]? = some (.cells (rowW p) 48 (0, 0))
  bel : Below w0.heap.size w0 w
theorem SSt.drewN {w0 w : World} {p : Array W32} (h : SSt w0 p w) (k : Nat) : SSt w0 p (w.drewN k) := ⟨h.r0, h.r1, below_drewN h.bel k⟩
theorem SSt.set {w0 w : World} {p : Array W32} (h : SSt w0 p w) (i : Nat) (x : W32) : SSt w0 (p.setIfInBounds i x) (w.setCell ⟨w0.heap.size + 1, i, none⟩ (.int .u32 (wv x))) := by
  refine ⟨?_, ?_, h.bel.setCell (by simp) _⟩
  · rw [heap_setCell_other _ _ _ _ (by simp)]; exact h.r0
  · rw [heap_setCell_same w _ i (rowW p) _ _ h.r1, rowW_set]
theorem SSt.cell {w0 w : World} {p : Array W32} (h : SSt w0 p w) (i : Nat) (hi : i < p.size) : w.cell? ⟨w0.heap.size + 1, i, none⟩ = some (.int .u32 (wv (p.getD i 0))) := by
  rw [cell_of_row w _ i _ _ _ h.r1, rowW_get p i hi]
theorem sst_start (w : World) : SSt w (Array.replicate 64 0) ((w.alloc (.cells (rowW (Array.replicate 64 0)) 48 (0, 0))).alloc (.cells (rowW (Array.replicate 64 0)) 48 (0, 0))) := by
  generalize hX : Obj.cells (rowW (Array.replicate 64 0)) 48 (0, 0) = X
  have hw := Below.refl w.heap.size w
  have s1 : (w.alloc X).heap.size = w.heap.size + 1 := World.size_alloc _ _
  have e1 : ((w.alloc X).alloc X).heap[w.heap.size]? = some X := ((MapKept.heap_alloc (w.alloc X) X).2 _ (by omega)).trans (MapKept.heap_alloc w X).1
  have f1 : ((w.alloc X).alloc X).heap[w.heap.size + 1]? = some X := by rw [← s1]; exact (MapKept.heap_alloc _ X).1
  subst hX
  exact ⟨e1, f1, below_alloc (below_alloc hw _) _⟩
theorem z64W : rowW (Array.replicate 64 0) = Array.replicate 64 (.int .u32 0) := by
  unfold rowW
  rw [Array.map_replicate]
  rfl
theorem be_or4q (x0 x1 x2 x3 : UInt8) (h0 : 0 < (ByteArray.mk #[x0, x1, x2, x3]).size) (h1 : 1 < (ByteArray.mk #[x0, x1, x2, x3]).size) (h2 : 2 < (ByteArray.mk #[x0, x1, x2, x3]).size) (h3 : 3 < (ByteArray.mk #[x0, x1, x2, x3]).size) :
    bits .or .u32 (bits .or .u32 (bits .or .u32 ((((ByteArray.mk #[x0, x1, x2, x3])[0]'h0).toNat : Int) % 4294967296 * 16777216 % 4294967296) ((((ByteArray.mk #[x0, x1, x2, x3])[1]'h1).toNat : Int) % 4294967296 * 65536 % 4294967296)) ((((ByteArray.mk #[x0, x1, x2, x3])[2]'h2).toNat : Int) % 4294967296 * 256 % 4294967296)) ((((ByteArray.mk #[x0, x1, x2, x3])[3]'h3).toNat : Int) % 4294967296)
      = wv (beN x0.toNat x1.toNat x2.toNat x3.toNat) :=
  be_or4 x0.toNat x1.toNat x2.toNat x3.toNat x0.toNat_lt x1.toNat_lt x2.toNat_lt x3.toNat_lt

attribute [local go_sem] w_add w_xor
set_option maxRecDepth 100000 in
set_option maxHeartbeats 1000000 in
theorem schedule_any (s : ByteArray) (w : World) (hs : s.size = 64) :
    Calls Tryd.prog 34 #[.string s] w fun e w' => e = .returned (.agg (rowW (sch (be s)))) ∧ Below w.heap.size w w' := by
  have HS := Lib.hid hs
  have hsi : (s.size : Int) = 64 := by omega
  have st := sst_start w
  rw [z64W] at st
  have HST := Lib.hid st
  clear hs st
  go_enter Tryd.func34, Tryd.ntmps34
  go_wp2_with fail
  have st : SSt w (ws1 (be s) 0) ((w.alloc (.cells (Array.replicate 64 (.int .u32 0)) 48 (0, 0))).alloc (.cells (Array.replicate 64 (.int .u32 0)) 48 (0, 0))) := HST.out
  generalize hW : World.alloc (World.alloc _ _) _ = w3
  have st3 : SSt w (ws1 (be s) 0) w3 := by
    rw [← hW]
    exact st
  clear hW st HST
  go_loopw [11] (fun i wr => ∃ j : Nat, j ≤ 16 ∧ i = .int .i64 j ∧ SSt w (ws1 (be s) j) wr) (fun i _ => 16 - (intOf i).toNat)
  case atStart => exact ⟨0, by omega, rfl, st3⟩
  case round =>
    obtain ⟨j, hj, rfl, st0⟩ := hrel
    clear st3
    by_cases hjN : j < 16
    · have jn : (0 : Int) ≤ j := Int.natCast_nonneg j
      have ji : (j : Int) < 16 := by omega
      have j64 : (j : Int) < 64 := by omega
      have h1 : (4 : Int) * j + 4 ≤ s.size := by omega
      have h2 : (4 : Int) * j ≤ 4 * j + 4 := by omega
      have h3 : (4 : Int) * j + 4 ≤ 64 := by omega
      have c1 := st0.cell j (by rw [size_ws1]; omega)
      have f1 := frozen_of_row _ (w.heap.size + 1) j _ _ st0.r1
      go_wp2_with fail
      have hq := ext4 s j (by rw [HS.out]; omega)
      generalize hx0 : (ls s).getD (4 * j) 0 = x0 at hq
      have HX0 := Lib.hid hx0
      clear hx0
      generalize hx1 : (ls s).getD (4 * j + 1) 0 = x1 at hq
      have HX1 := Lib.hid hx1
      clear hx1
      generalize hx2 : (ls s).getD (4 * j + 2) 0 = x2 at hq
      have HX2 := Lib.hid hx2
      clear hx2
      generalize hx3 : (ls s).getD (4 * j + 3) 0 = x3 at hq
      have HX3 := Lib.hid hx3
      clear hx3
      rw [hq]
      clear hq
      refine wp_region_draws_tail 20 (by kernel_rfl) (by kernel_rfl) ?_
      simp only [List.take_succ_cons, List.take_zero, List.drop_succ_cons, List.drop_zero]
      repeat (go_big_quiet_step (fail))
      refine wpQuiet_nil ?_
      intro _ hw'
      obtain ⟨kk, hw''⟩ := hw'
      subst hw''
      rw [be_or4q x0 x1 x2 x3]
      have hV : be s j = beN x0.toNat x1.toNat x2.toNat x3.toNat := by rw [be, HX0.out, HX1.out, HX2.out, HX3.out]
      generalize beN x0.toNat x1.toNat x2.toNat x3.toNat = V at hV ⊢
      have HV := Lib.hid hV
      clear hV
      go_wp2_with fail
      have st1 := (st0.drewN kk).set j V
      generalize World.setCell _ _ _ = wn at st1 ⊢
      go_wp2_with fail
      go_roundw
      case rel => exact ⟨j + 1, by omega, by go_num, by rw [ws1, HV.out]; exact st1⟩
      case measure => simp [intOf]; omega
    · have ji : ¬ ((j : Int) < 16) := by omega
      have hj16 : j = 16 := by omega
      rw [hj16] at st0
      have hP := size_ws1 (be s) 16
      generalize hp : ws1 (be s) 16 = P at st0 hP
      have HP := Lib.hid hp
      have HPS := Lib.hid hP
      clear hp hP hj16 hjN
      go_wp2_with fail
      go_loopw [6] (fun i wr => ∃ t : Nat, t ≤ 48 ∧ i = .int .i64 (16 + (t : Int)) ∧ SSt w (ws2 P t) wr) (fun i _ => 64 - (intOf i).toNat)
      case atStart => exact ⟨0, by omega, rfl, st0⟩
      case round =>
        obtain ⟨t, ht, rfl, st2⟩ := hrel
        clear st0
        by_cases htN : t < 48
        · have ti : 16 + (t : Int) < 64 := by omega
          have tn : (0 : Int) ≤ t := Int.natCast_nonneg t
          have e15 : 16 + (t : Int) - 15 = ((t + 1 : Nat) : Int) := by omega
          have e2 : 16 + (t : Int) - 2 = ((t + 14 : Nat) : Int) := by omega
          have e16 : 16 + (t : Int) - 16 = (t : Int) := by omega
          have e7 : 16 + (t : Int) - 7 = ((t + 9 : Nat) : Int) := by omega
          have hz : (ws2 P t).size = 64 := (size_ws2 P t).trans HPS.out
          have c15 := st2.cell (t + 1) (by omega)
          have c2 := st2.cell (t + 14) (by omega)
          have c16 := st2.cell t (by omega)
          have c7 := st2.cell (t + 9) (by omega)
          have c0 := st2.cell (16 + t) (by omega)
          have f0 := frozen_of_row _ (w.heap.size + 1) (16 + t) _ _ st2.r1
          generalize hx : (ws2 P t).getD (t + 1) 0 = x at c15
          generalize hy : (ws2 P t).getD (t + 14) 0 = y at c2
          generalize hu : (ws2 P t).getD t 0 = u at c16
          generalize hv : (ws2 P t).getD (t + 9) 0 = v at c7
          have HN := Lib.hid (show nxt (ws2 P t) (16 + t) = u + s0 x + v + s1 y by
            rw [nxt, show 16 + t - 16 = t by omega, show 16 + t - 15 = t + 1 by omega, show 16 + t - 7 = t + 9 by omega, show 16 + t - 2 = t + 14 by omega, hx, hy, hu, hv])
          have l1 : ((t + 1 : Nat) : Int) < 64 := by omega
          have l2 : ((t + 14 : Nat) : Int) < 64 := by omega
          have l3 : ((t + 9 : Nat) : Int) < 64 := by omega
          have l4 : (t : Int) < 64 := by omega
          have sh3 := w_shr x 3 (wv x / 8) (by unfold wv; omega)
          have sh10 := w_shr y 10 (wv y / 1024) (by unfold wv; omega)
          have HST2 := Lib.hid st2
          clear hx hy hu hv hz htN st2
          go_wp2_with fail
          go_quiet (fail)
          have HSQ := Lib.hid (HST2.out.drewN nq)
          go_wp2_with fail
          refine (rotm7 x _).mono ?_
          rintro e w5 ⟨rfl, rfl⟩
          go_wp2_with fail
          refine (rotm18 x _).mono ?_
          rintro e w5 ⟨rfl, rfl⟩
          go_wp2_with fail
          refine (rotm17 y _).mono ?_
          rintro e w5 ⟨rfl, rfl⟩
          go_wp2_with fail
          refine (rotm19 y _).mono ?_
          rintro e w5 ⟨rfl, rfl⟩
          go_wp2_with fail
          have hsx : BitVec.rotateLeft x 25 ^^^ BitVec.rotateLeft x 14 ^^^ x >>> 3 = s0 x := rfl
          have hsy : BitVec.rotateLeft y 15 ^^^ BitVec.rotateLeft y 13 ^^^ y >>> 10 = s1 y := rfl
          rw [hsx, hsy]
          clear hsx hsy sh3 sh10 c15 c2
          generalize s0 x = sx at HN ⊢
          generalize s1 y = sy at HN ⊢
          refine wp_region_draws_tail 15 (by kernel_rfl) (by kernel_rfl) ?_
          simp only [List.take_succ_cons, List.take_zero, List.drop_succ_cons, List.drop_zero]
          repeat (go_big_quiet_step (fail))
          refine wpQuiet_nil ?_
          intro _ hw'
          obtain ⟨kk, hw''⟩ := hw'
          subst hw''
          go_wp2_with fail
          go_roundw
          case rel => exact ⟨t + 1, by omega, congrArg _ (by omega), by rw [ws2, HN.out]; exact (HST2.out.drewN (nq + kk)).set (16 + t) _⟩
          case measure => simp [intOf]; omega
        · have ti : ¬ (16 + (t : Int) < 64) := by omega
          have ht48 : t = 48 := by omega
          rw [ht48] at st2
          have hrow : ws2 P 48 = sch (be s) := by rw [sch, HP.out]
          rw [hrow] at st2
          have hsz := size_sch (be s)
          generalize hR : sch (be s) = R at st2 hsz
          have HR := Lib.hid hR
          have HI := Lib.hid (show (Tryd.prog.info? 48).map (·.size) = some (rowW R).size by rw [size_rowW, hsz]; kernel_rfl)
          have h0 := st2.r0
          rw [z64W] at h0
          have HL := Lib.hid (show (Array.replicate 64 (Value.int .u32 0)).size = (rowW R).size by rw [size_rowW, hsz]; rfl)
          have H0 := Lib.hid h0
          have HST2 := Lib.hid st2
          clear st2 hrow hR hsz h0 ht48 htN
          go_wp2_with (first
            | (with_reducible refine wpList_load_row rfl 48 (.tmp 3) rfl (w.heap.size + 1) rfl 48 (rowW R) (0, 0) _ HST2.out.r1 Tryd.underlying48 rfl HI.out ?_)
            | (with_reducible refine wpList_store_row rfl 48 (.tmp 2) (.tmp 85) rfl w.heap.size (rowW R) rfl rfl 48 (Array.replicate 64 (.int .u32 0)) H0.out HI.out HL.out (one_rowW R) ?_))
          refine bodyPost_ret (results_cell_row rfl _ _ w.heap.size 48 (rowW R) (0, 0) _ rfl (setRow_heap _ _ _ _ _ _ H0.out) Tryd.underlying48 rfl HI.out) rfl ⟨by rw [HR.out], ?_⟩
          exact below_setRow HST2.out.bel (Nat.le_refl _) _
end Go.Proofs.YtkbfflnjbafamaaDoor
