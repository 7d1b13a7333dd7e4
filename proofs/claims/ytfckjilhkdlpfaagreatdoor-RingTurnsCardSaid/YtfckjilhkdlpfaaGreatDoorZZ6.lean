/-
  Texts of this seat, put together (what is needed of them): Fin, Fill, RWord, Beg, BlkA, BlkB, RBlkA, RBlk, TrnA, TrnB, PolP, PolQ, PolS, RTrn, LTrn, AeadP, BytE, PWa, PWb, PWc.
-/
import Derived.Test.YtfckjilhkdlpfaaGreatDoorZZ5
import Derived.Deep.AppendLies
import Derived.Deep.Light
import Derived.Laws.IdiomStrings
import Derived.Deep.QuietTactic
import Derived.Lib.SmallJoins
import Derived.Lib.BufferWrite
import Derived.Deep.DeepCutAuto

namespace Go.Proofs.YtfckjilhkdlpfaaGreatDoor
open Go.RowKit MS
/-- What is known of the world in the rounds: the state's row at B, the row that is turned at B + 2. -/
structure FSt (B : Nat) (w0 : World) (s t : Array W32) (w : World) : Prop where
  r0 : w.heap[B]? = some (.cells (rowWCh s) 123 (0, 0))
  r2 : w.heap[B + 2]? = some (.cells (rowWCh t) 123 (0, 0))
  r1 : w.heap[B + 1]? = some (.cells (Array.replicate 64 (.int .u8 0)) 126 (0, 0))
  bel : Below B w0 w

theorem FSt.step {B : Nat} {w0 w w' : World} {s t t' : Array W32} (h : FSt B w0 s t w) (hg : w.grownBy w' (some (B + 2))) (hr : w'.heap[B + 2]? = some (.cells (rowWCh t') 123 (0, 0))) : FSt B w0 s t' w' := by
  have l0 : B < w.heap.size := (Array.getElem?_eq_some_iff.1 h.r0).1
  have l1 : B + 1 < w.heap.size := (Array.getElem?_eq_some_iff.1 h.r1).1
  refine ⟨(hg.block B l0 (by simp)).trans h.r0, hr, (hg.block (B + 1) l1 (by simp)).trans h.r1, ?_⟩
  exact h.bel.grown hg (by omega) (by intro k e; cases e; omega)

theorem below_setRowCh {B g : Nat} {w0 w : World} (h : Below B w0 w) (hg : B ≤ g) (cs : Array Value) : Below B w0 (w.setRow g cs) :=
  ⟨h.os, h.tape, h.output, by simpa using h.size, fun k hk => by rw [setRow_other _ _ _ _ (by omega)]; exact h.block k hk⟩

theorem fst_start (w : World) (s : Array W32) :
    FSt w.heap.size w s s ((((w.alloc (.cells (rowWCh s) 123 (0, 0))).alloc (.cells (Array.replicate 64 (.int .u8 0)) 126 (0, 0))).alloc (.cells (Array.replicate 16 (.int .u32 0)) 123 (0, 0))).setRow (w.heap.size + 1 + 1) (rowWCh s)) := by
  have hw := Below.refl w.heap.size w
  generalize hX : Obj.cells (rowWCh s) 123 (0, 0) = X
  generalize hY : Obj.cells (Array.replicate 64 (.int .u8 0)) 126 (0, 0) = Y
  generalize hZ : Obj.cells (Array.replicate 16 (.int .u32 0)) 123 (0, 0) = Z
  have s1 : (w.alloc X).heap.size = w.heap.size + 1 := World.size_alloc _ _
  have s2 : ((w.alloc X).alloc Y).heap.size = w.heap.size + 1 + 1 := by rw [World.size_alloc, s1]
  have e0 : (w.alloc X).heap[w.heap.size]? = some X := (MapKept.heap_alloc w X).1
  have e1 : ((w.alloc X).alloc Y).heap[w.heap.size]? = some X := ((MapKept.heap_alloc (w.alloc X) Y).2 _ (by omega)).trans e0
  have e2 : (((w.alloc X).alloc Y).alloc Z).heap[w.heap.size]? = some X := ((MapKept.heap_alloc _ Z).2 _ (by omega)).trans e1
  have f1 : ((w.alloc X).alloc Y).heap[w.heap.size + 1]? = some Y := by rw [← s1]; exact (MapKept.heap_alloc _ Y).1
  have f2 : (((w.alloc X).alloc Y).alloc Z).heap[w.heap.size + 1]? = some Y := ((MapKept.heap_alloc _ Z).2 _ (by omega)).trans f1
  have g2 : (((w.alloc X).alloc Y).alloc Z).heap[w.heap.size + 1 + 1]? = some Z := by rw [← s2]; exact (MapKept.heap_alloc _ Z).1
  have b3 : Below w.heap.size w (((w.alloc X).alloc Y).alloc Z) := below_alloc (below_alloc (below_alloc hw _) _) _
  subst hX hY hZ
  exact ⟨by rw [setRow_other _ _ _ _ (by omega)]; exact e2, setRow_heap _ _ _ _ _ _ g2, by rw [setRow_other _ _ _ _ (by omega)]; exact f2, below_setRowCh b3 (by omega) _⟩

/-- The row of bytes behind i words. -/
def ob (x : W32) : Nat → Value
  | 0 => .int .u8 (wv x % 256)
  | 1 => .int .u8 (wv x / 256 % 256)
  | 2 => .int .u8 (wv x / 65536 % 256)
  | _ => .int .u8 (wv x / 16777216 % 256)
def zz (t s : Array W32) (i : Nat) : W32 := t.getD i 0 + s.getD i 0
def orow (z : Nat → W32) : Nat → Array Value
  | 0 => Array.replicate 64 (.int .u8 0)
  | i + 1 => ((((orow z i).setIfInBounds (4 * i) (ob (z i) 0)).setIfInBounds (4 * i + 1) (ob (z i) 1)).setIfInBounds (4 * i + 2) (ob (z i) 2)).setIfInBounds (4 * i + 3) (ob (z i) 3)
theorem size_orow (z : Nat → W32) (i : Nat) : (orow z i).size = 64 := by
  induction i with
  | zero => rfl
  | succ i ih => simp [orow, ih]

theorem all_orow (z : Nat → W32) (i : Nat) : (orow z i).all (·.oneCell') = true := by
  rw [Array.all_eq_true_iff_forall_mem]
  induction i with
  | zero => intro v hv; rw [orow, Array.mem_replicate] at hv; rw [hv.2]; rfl
  | succ i ih =>
    intro v hv
    have hs : ∀ (A : Array Value) (p : Nat) (u : Value), (∀ v ∈ A, v.oneCell' = true) → u.oneCell' = true → ∀ v ∈ A.setIfInBounds p u, v.oneCell' = true := by
      intro A p u hA hu v hv
      rcases Array.mem_or_eq_of_mem_setIfInBounds hv with h | h
      · exact hA v h
      · rw [h]; exact hu
    exact hs _ _ _ (hs _ _ _ (hs _ _ _ (hs _ _ _ ih rfl) rfl) rfl) rfl v hv

def blk (s : Array W32) : Array Value := orow (zz (drs 10 s) s) 16
structure OSt (B O : Nat) (w0 : World) (s : Array W32) (row : Array Value) (w : World) : Prop where
  lt : B + 2 < O
  r0 : w.heap[B]? = some (.cells (rowWCh s) 123 (0, 0))
  r1 : w.heap[B + 1]? = some (.cells (Array.replicate 64 (.int .u8 0)) 126 (0, 0))
  ro : w.heap[O]? = some (.cells row 126 (0, 0))
  sz : row.size = 64
  bel : Below B w0 w

theorem OSt.set {B O : Nat} {w0 w : World} {s : Array W32} {row : Array Value} (h : OSt B O w0 s row w) (p : Nat) (v : Value) : OSt B O w0 s (row.setIfInBounds p v) (w.setCell ⟨O, p, none⟩ v) := by
  have hl := h.lt
  refine ⟨hl, ?_, ?_, heap_setCell_same w O p row _ v h.ro, by simp [h.sz], h.bel.setCell (by simp; omega) _⟩
  · rw [heap_setCell_other _ _ _ _ (by simp; omega)]; exact h.r0
  · rw [heap_setCell_other _ _ _ _ (by simp; omega)]; exact h.r1
theorem OSt.cell {B O : Nat} {w0 w : World} {s : Array W32} {row : Array Value} (h : OSt B O w0 s row w) (p : Nat) (hp : p < 64) : ∃ u, w.cell? ⟨O, p, none⟩ = some u := by
  rw [cell_of_row w O p _ _ _ h.ro]
  have : p < row.size := by rw [h.sz]; exact hp
  exact ⟨row[p], by simp [this]⟩
theorem OSt.word {B O : Nat} {w0 w : World} {s : Array W32} {row : Array Value} (h : OSt B O w0 s row w) (i : Nat) (hi : i < s.size) : w.cell? ⟨B, i, none⟩ = some (.int .u32 (wv (s.getD i 0))) := by
  rw [cell_of_row w B i _ _ _ h.r0]
  simp [rowWCh, hi]

attribute [local go_sem] w_add
set_option maxRecDepth 100000 in
set_option maxHeartbeats 1000000 in
theorem finish_anyCh (s : Array W32) (w : World) (hs : s.size = 16) :
    Calls Tryz.prog 95 #[.agg (rowWCh s)] w fun e w' => e = .returned (.agg (blk s)) ∧ Below w.heap.size w w' := by
  have HS := Lib.hid hs
  have hz : (rowWCh s).size = 16 := by rw [size_rowWCh, hs]
  have h1c : (rowWCh s).all (·.oneCell') = true := by simp [rowWCh, Value.oneCell']
  have hi : (Tryz.prog.info? 123).map (·.size) = some (rowWCh s).size := by rw [hz]; kernel_rfl
  have HL := Lib.hid (fun X => ((MapKept.heap_alloc (w.alloc (.cells (rowWCh s) 123 (0, 0))) X).2 w.heap.size (by simp)).trans (MapKept.heap_alloc w (.cells (rowWCh s) 123 (0, 0))).1)
  have HZ := Lib.hid hz
  have HI := Lib.hid hi
  have HO := Lib.hid h1c
  have HA := Lib.hid (fun (v : World) (X : Obj) => (MapKept.heap_alloc v X).1)
  have HE := Lib.hid (fun X Y => show ((w.alloc X).alloc Y).heap.size = w.heap.size + 1 + 1 by simp)
  have HF := Lib.hid (fst_start w s)
  clear hs hz h1c hi
  go_enter Tryz.func95, Tryz.ntmps95
  go_wp2_with (first
    | (with_reducible refine wpList_load_row rfl 123 (.tmp 1) rfl w.heap.size rfl 123 (rowWCh s) (0, 0) _ (HL.out _) Tryz.underlying123 rfl HI.out ?_)
    | (with_reducible refine wpList_store_row rfl 123 (.tmp 3) (.tmp 8) rfl (w.heap.size + 1 + 1) (rowWCh s) rfl rfl 123 (Array.replicate 16 (.int .u32 0)) ?hg HI.out ?hl HO.out ?_))
  case hg => exact (congrArg (fun n => (World.heap _)[n]?) (HE.out _ _).symm).trans (HA.out _ _)
  case hl => rw [HZ.out]; rfl
  generalize hW : World.setRow (World.alloc _ _) _ _ = w3
  have st : FSt w.heap.size w s (drs 0 s) w3 := by
    subst hW
    exact HF.out
  clear hW
  go_loopw [9] (fun i wr => ∃ k : Nat, k ≤ 10 ∧ i = .int .i64 k ∧ FSt w.heap.size w s (drs k s) wr) (fun i _ => 10 - (intOf i).toNat)
  case atStart => exact ⟨0, by omega, rfl, st⟩
  case round =>
    obtain ⟨k, hk, rfl, st0⟩ := hrel
    have ht := (size_drs k s).trans HS.out
    generalize hT : drs k s = t0 at st0 ht
    have HT := Lib.hid hT
    have HS0 := Lib.hid ht
    have HI0 := Lib.hid (show (Tryz.prog.info? 123).map (·.size) = some (rowWCh t0).size by rw [size_rowWCh, ht]; kernel_rfl)
    have HL0 := Lib.hid (fun X => ((MapKept.heap_alloc wr X).2 (w.heap.size + 1 + 1) (Array.getElem?_eq_some_iff.1 st0.r2).1).trans st0.r2)
    clear hT ht st
    go_wp2_with (with_reducible refine wpList_load_row rfl 123 (.tmp 3) rfl (w.heap.size + 1 + 1) rfl 123 (rowWCh t0) (0, 0) _ (HL0.out _) Tryz.underlying123 rfl HI0.out ?_)
    · have hk1 : k < 10 := by omega
      refine (turn16 (w.heap.size + 1 + 1) 123 0 4 8 12 t0 _ HS0.out (by decide) st0.r2).mono ?_
      rintro e w0 ⟨rfl, hg, hr⟩
      have st1 := st0.step hg hr
      have HS1 := Lib.hid ((size_qr t0 0 4 8 12).trans HS0.out)
      clear hg hr st0
      generalize hq0 : qr t0 0 4 8 12 = t1 at st1 HS1
      have HQ0 := Lib.hid hq0
      clear hq0
      go_wp2_with fail
      refine (turn16 (w.heap.size + 1 + 1) 123 1 5 9 13 t1 _ HS1.out (by decide) st1.r2).mono ?_
      rintro e w1 ⟨rfl, hg, hr⟩
      have st2 := st1.step hg hr
      have HS2 := Lib.hid ((size_qr t1 1 5 9 13).trans HS1.out)
      clear hg hr st1
      generalize hq1 : qr t1 1 5 9 13 = t2 at st2 HS2
      have HQ1 := Lib.hid hq1
      clear hq1
      go_wp2_with fail
      refine (turn16 (w.heap.size + 1 + 1) 123 2 6 10 14 t2 _ HS2.out (by decide) st2.r2).mono ?_
      rintro e w2 ⟨rfl, hg, hr⟩
      have st3 := st2.step hg hr
      have HS3 := Lib.hid ((size_qr t2 2 6 10 14).trans HS2.out)
      clear hg hr st2
      generalize hq2 : qr t2 2 6 10 14 = t3 at st3 HS3
      have HQ2 := Lib.hid hq2
      clear hq2
      go_wp2_with fail
      refine (turn16 (w.heap.size + 1 + 1) 123 3 7 11 15 t3 _ HS3.out (by decide) st3.r2).mono ?_
      rintro e w3 ⟨rfl, hg, hr⟩
      have st4 := st3.step hg hr
      have HS4 := Lib.hid ((size_qr t3 3 7 11 15).trans HS3.out)
      clear hg hr st3
      generalize hq3 : qr t3 3 7 11 15 = t4 at st4 HS4
      have HQ3 := Lib.hid hq3
      clear hq3
      go_wp2_with fail
      refine (turn16 (w.heap.size + 1 + 1) 123 0 5 10 15 t4 _ HS4.out (by decide) st4.r2).mono ?_
      rintro e w4 ⟨rfl, hg, hr⟩
      have st5 := st4.step hg hr
      have HS5 := Lib.hid ((size_qr t4 0 5 10 15).trans HS4.out)
      clear hg hr st4
      generalize hq4 : qr t4 0 5 10 15 = t5 at st5 HS5
      have HQ4 := Lib.hid hq4
      clear hq4
      go_wp2_with fail
      refine (turn16 (w.heap.size + 1 + 1) 123 1 6 11 12 t5 _ HS5.out (by decide) st5.r2).mono ?_
      rintro e w5 ⟨rfl, hg, hr⟩
      have st6 := st5.step hg hr
      have HS6 := Lib.hid ((size_qr t5 1 6 11 12).trans HS5.out)
      clear hg hr st5
      generalize hq5 : qr t5 1 6 11 12 = t6 at st6 HS6
      have HQ5 := Lib.hid hq5
      clear hq5
      go_wp2_with fail
      refine (turn16 (w.heap.size + 1 + 1) 123 2 7 8 13 t6 _ HS6.out (by decide) st6.r2).mono ?_
      rintro e w6 ⟨rfl, hg, hr⟩
      have st7 := st6.step hg hr
      have HS7 := Lib.hid ((size_qr t6 2 7 8 13).trans HS6.out)
      clear hg hr st6
      generalize hq6 : qr t6 2 7 8 13 = t7 at st7 HS7
      have HQ6 := Lib.hid hq6
      clear hq6
      go_wp2_with fail
      refine (turn16 (w.heap.size + 1 + 1) 123 3 4 9 14 t7 _ HS7.out (by decide) st7.r2).mono ?_
      rintro e w7 ⟨rfl, hg, hr⟩
      have st8 := st7.step hg hr
      have HS8 := Lib.hid ((size_qr t7 3 4 9 14).trans HS7.out)
      clear hg hr st7
      generalize hq7 : qr t7 3 4 9 14 = t8 at st8 HS8
      have HQ7 := Lib.hid hq7
      clear hq7
      go_wp2_with fail
      go_roundw
      case rel =>
        refine ⟨k + 1, by omega, by go_num, ?_⟩
        rw [drs, HT.out, dr, HQ0.out, HQ1.out, HQ2.out, HQ3.out, HQ4.out, HQ5.out, HQ6.out, HQ7.out]
        exact st8
      case measure => simp [intOf]; omega
    · have so : OSt w.heap.size wr.heap.size w s (orow (zz t0 s) 0) (wr.alloc (.cells (Array.replicate 64 (.int .u8 0)) 126 (0, 0))) := by
        have l2 : w.heap.size + 2 < wr.heap.size := (Array.getElem?_eq_some_iff.1 st0.r2).1
        have l1 : w.heap.size + 1 < wr.heap.size := by omega
        have l0 : w.heap.size < wr.heap.size := by omega
        exact ⟨l2, ((MapKept.heap_alloc wr _).2 _ l0).trans st0.r0, ((MapKept.heap_alloc wr _).2 _ l1).trans st0.r1, (MapKept.heap_alloc wr _).1, by simp [orow], below_alloc st0.bel _⟩
      generalize hO : wr.heap.size = O at so ⊢
      clear hO st0 HL0
      go_loopw [21] (fun i wr => ∃ i' : Nat, i' ≤ 16 ∧ i = .int .i64 i' ∧ OSt w.heap.size O w s (orow (zz t0 s) i') wr) (fun i _ => 16 - (intOf i).toNat)
      case atStart => exact ⟨0, by omega, rfl, so⟩
      case round =>
        obtain ⟨j, hj, rfl, so0⟩ := hrel
        clear so
        by_cases hlt : j < 16
        · have ji : (j : Int) < 16 := by omega
          have jn : (0 : Int) ≤ j := by omega
          have hc := so0.word j (by rw [HS.out]; exact hlt)
          have hix := fun w => run_index_rowCh t0 HS0.out j hlt w
          generalize hsj : s.getD j 0 = sj at hc
          have HSJ := Lib.hid hsj
          clear hsj
          generalize htj : t0.getD j 0 = tj at hix
          have HTJ := Lib.hid htj
          clear htj
          go_wp2_with fail
          refine wp_loop_rounds 5 ?_
          obtain ⟨u, cu⟩ := so0.cell (4 * j) (by omega)
          have fu := frozen_of_row _ O (4 * j) _ _ so0.ro
          have jb0 : ((4 * j + 0 : Nat) : Int) < 64 := by omega
          rw [rounds_succ]
          go_wp2_with fail
          have so1 := so0.set (4 * j) (.int .u8 (wv (tj + sj) % 256))
          generalize World.setCell _ _ _ = wn0 at so1 ⊢
          clear cu fu jb0 so0
          obtain ⟨u, cu⟩ := so1.cell (4 * j + 1) (by omega)
          have fu := frozen_of_row _ O (4 * j + 1) _ _ so1.ro
          have jb1 : ((4 * j + 1 : Nat) : Int) < 64 := by omega
          rw [rounds_succ]
          go_wp2_with fail
          have so2 := so1.set (4 * j + 1) (.int .u8 (wv (tj + sj) / 256 % 256))
          generalize World.setCell _ _ _ = wn1 at so2 ⊢
          clear cu fu jb1 so1
          obtain ⟨u, cu⟩ := so2.cell (4 * j + 2) (by omega)
          have fu := frozen_of_row _ O (4 * j + 2) _ _ so2.ro
          have jb2 : ((4 * j + 2 : Nat) : Int) < 64 := by omega
          rw [rounds_succ]
          go_wp2_with fail
          have so3 := so2.set (4 * j + 2) (.int .u8 (wv (tj + sj) / 65536 % 256))
          generalize World.setCell _ _ _ = wn2 at so3 ⊢
          clear cu fu jb2 so2
          obtain ⟨u, cu⟩ := so3.cell (4 * j + 3) (by omega)
          have fu := frozen_of_row _ O (4 * j + 3) _ _ so3.ro
          have jb3 : ((4 * j + 3 : Nat) : Int) < 64 := by omega
          rw [rounds_succ]
          go_wp2_with fail
          have so4 := so3.set (4 * j + 3) (.int .u8 (wv (tj + sj) / 16777216 % 256))
          generalize World.setCell _ _ _ = wn3 at so4 ⊢
          clear cu fu jb3 so3
          rw [rounds_succ]
          go_wp2_with fail
          go_roundw
          case rel =>
            refine ⟨j + 1, by omega, by go_num, ?_⟩
            have hz : zz t0 s j = tj + sj := by rw [← HSJ.out, ← HTJ.out]; rfl
            rw [orow, hz]
            exact so4
          case measure => simp [intOf]; omega
        · have hj16 : j = 16 := by omega
          subst hj16
          have HSZ := size_orow (zz t0 s) 16
          have HOC : (orow (zz t0 s) 16).all (·.oneCell') = true := all_orow _ _
          have HR := so0.ro
          have HR1 := so0.r1
          generalize hrow : orow (zz t0 s) 16 = row at so0 HSZ HOC HR
          have HROW := Lib.hid hrow
          clear hrow
          have HSZ' := Lib.hid HSZ
          have HOC' := Lib.hid HOC
          have HR' := Lib.hid HR
          have HR1' := Lib.hid HR1
          have HI5 := Lib.hid (show (Tryz.prog.info? 126).map (·.size) = some row.size by rw [HSZ]; kernel_rfl)
          have HSO := Lib.hid so0
          have HL5 := Lib.hid (show (Array.replicate 64 (Value.int .u8 0)).size = row.size by rw [HSZ]; rfl)
          clear HSZ HOC HR HR1 so0
          go_wp2_with (first
            | (with_reducible refine wpList_load_row rfl 126 (.tmp 4) rfl O rfl 126 row (0, 0) _ HR'.out Tryz.underlying126 rfl HI5.out ?_)
            | (with_reducible refine wpList_store_row rfl 126 (.tmp 2) (.tmp 45) rfl (w.heap.size + 1) row rfl rfl 126 (Array.replicate 64 (.int .u8 0)) HR1'.out HI5.out HL5.out HOC'.out ?_))
          have hk10 : k = 10 := by omega
          have hres : row = blk s := by rw [← HROW.out, ← HT.out, hk10]; rfl
          have hO := HSO.out.lt
          refine bodyPost_ret (results_cell_row rfl _ _ (w.heap.size + 1) 126 row (0, 0) _ rfl (setRow_heap _ _ _ _ _ _ HR1'.out) Tryz.underlying126 rfl HI5.out) rfl ⟨by rw [hres], ?_⟩
          exact below_setRowCh HSO.out.bel (by omega) _
end Go.Proofs.YtfckjilhkdlpfaaGreatDoor

namespace Go.Proofs.YtfckjilhkdlpfaaGreatDoor
open Go.RowKit MS
/-- Byte p of a text, as a number. -/
def byt (s : ByteArray) (p : Nat) : Nat := (s.data.toList.getD p 0).toNat
def leW (s : ByteArray) (i : Nat) : W32 := BitVec.ofNat 32 (byt s (4 * i) + 256 * byt s (4 * i + 1) + 65536 * byt s (4 * i + 2) + 16777216 * byt s (4 * i + 3))
def fillRow (cs : Array Value) (o : Nat) (s : ByteArray) : Nat → Array Value
  | 0 => cs
  | i + 1 => (fillRow cs o s i).setIfInBounds (o + i) (.int .u32 (wv (leW s i)))
theorem size_fillRow (cs : Array Value) (o : Nat) (s : ByteArray) (n : Nat) : (fillRow cs o s n).size = cs.size := by
  induction n with
  | zero => rfl
  | succ n ih => simp [fillRow, ih]

theorem ext4Ch (s : ByteArray) (j : Nat) (h : 4 * j + 4 ≤ s.size) : s.extract (4 * j) (4 * j + 4) = ByteArray.mk #[s.data.toList.getD (4 * j) 0, s.data.toList.getD (4 * j + 1) 0, s.data.toList.getD (4 * j + 2) 0, s.data.toList.getD (4 * j + 3) 0] := by
  apply ls_inj
  rw [ls_extract]
  have hl : s.data.toList.length = s.size := by simp
  show ((s.data.toList).drop (4 * j)).take (4 * j + 4 - 4 * j) = [_, _, _, _]
  generalize s.data.toList = l at hl
  rw [show 4 * j + 4 - 4 * j = 4 by omega]
  apply List.ext_getElem
  · simp; omega
  · intro i h1 h2
    simp at h1
    have h4 : i < 4 := by omega
    have hi : 4 * j + i < l.length := by omega
    match i, h4 with
    | 0, _ => simp [show 4 * j < l.length by omega]
    | 1, _ => simp [show 4 * j + 1 < l.length by omega]
    | 2, _ => simp [show 4 * j + 2 < l.length by omega]
    | 3, _ => simp [show 4 * j + 3 < l.length by omega]

theorem or_mulCh (a b k : Nat) (h : a < 2 ^ k) : a ||| b * 2 ^ k = b * 2 ^ k + a := by
  rw [Nat.or_comm, ← Nat.shiftLeft_eq, Nat.shiftLeft_add_eq_or_of_lt h]
theorem le_or4 (a b c d : Nat) (ha : a < 2 ^ 8) (hb : b < 2 ^ 8) (hc : c < 2 ^ 8) (hd : d < 2 ^ 8) :
    bits .or .u32 (bits .or .u32 (bits .or .u32 ((a : Int) % 4294967296) ((b : Int) % 4294967296 * 256 % 4294967296)) ((c : Int) % 4294967296 * 65536 % 4294967296)) ((d : Int) % 4294967296 * 16777216 % 4294967296)
      = wv (BitVec.ofNat 32 (a + 256 * b + 65536 * c + 16777216 * d)) := by
  have ha' : a < 256 := ha
  have hb' : b < 256 := hb
  have hc' : c < 256 := hc
  have hd' : d < 256 := hd
  clear ha hb hc hd
  have bound : ∀ x y m : Nat, x < 256 → y < m → x * m + y < 256 * m := fun x y m hx hy =>
    Nat.lt_of_lt_of_le (show x * m + y < (x + 1) * m by rw [Nat.succ_mul]; exact Nat.add_lt_add_left hy _) (Nat.mul_le_mul_right _ hx)
  have l1 : b * 256 + a < 65536 := bound b a 256 hb' ha'
  have l2 : c * 65536 + (b * 256 + a) < 16777216 := bound c _ 65536 hc' l1
  have l4 : d * 16777216 + (c * 65536 + (b * 256 + a)) < 4294967296 := bound d _ 16777216 hd' l2
  have es : a + 256 * b + 65536 * c + 16777216 * d = d * 16777216 + (c * 65536 + (b * 256 + a)) := by clear l1 l2 l4; omega
  have l3 : a + 256 * b + 65536 * c + 16777216 * d < 4294967296 := by rw [es]; exact l4
  have k1 : a < 4294967296 := Nat.lt_trans ha' (by decide)
  have k3 : b * 256 + a < 4294967296 := Nat.lt_trans l1 (by decide)
  have k2 : b * 256 < 4294967296 := Nat.lt_of_le_of_lt (Nat.le_add_right _ _) k3
  have k5 : c * 65536 + (b * 256 + a) < 4294967296 := Nat.lt_trans l2 (by decide)
  have k4 : c * 65536 < 4294967296 := Nat.lt_of_le_of_lt (Nat.le_add_right _ _) k5
  have k6 : d * 16777216 < 4294967296 := Nat.lt_of_le_of_lt (Nat.le_add_right _ _) l4
  have e0 : (a : Int) % 4294967296 = ((a : Nat) : Int) := by clear l1 l2 l3 l4 es k2 k3 k4 k5 k6 bound; omega
  have e1 : (b : Int) % 4294967296 * 256 % 4294967296 = ((b * 256 : Nat) : Int) := by clear l1 l2 l3 l4 es k1 k2 k3 k4 k5 k6 e0 bound; omega
  have e2 : (c : Int) % 4294967296 * 65536 % 4294967296 = ((c * 65536 : Nat) : Int) := by clear l1 l2 l3 l4 es k1 k2 k3 k4 k5 k6 e0 e1 bound; omega
  have e3 : (d : Int) % 4294967296 * 16777216 % 4294967296 = ((d * 16777216 : Nat) : Int) := by clear l1 l2 l3 l4 es k1 k2 k3 k4 k5 k6 e0 e1 e2 bound; omega
  rw [e0, e1, e2, e3, u32_or_nat _ _ k1 k2, or_mulCh a b 8 ha', u32_or_nat _ _ k3 k4, or_mulCh (b * 256 + a) c 16 l1, u32_or_nat _ _ k5 k6, or_mulCh (c * 65536 + (b * 256 + a)) d 24 l2]
  unfold wv
  rw [BitVec.toNat_ofNat, Nat.mod_eq_of_lt l3]
  rw [es]
theorem le_or4q (x0 x1 x2 x3 : UInt8) (h0 : 0 < (ByteArray.mk #[x0, x1, x2, x3]).size) (h1 : 1 < (ByteArray.mk #[x0, x1, x2, x3]).size) (h2 : 2 < (ByteArray.mk #[x0, x1, x2, x3]).size) (h3 : 3 < (ByteArray.mk #[x0, x1, x2, x3]).size) :
    bits .or .u32 (bits .or .u32 (bits .or .u32 (((ByteArray.mk #[x0, x1, x2, x3])[0]'h0).toNat % 4294967296) ((((ByteArray.mk #[x0, x1, x2, x3])[1]'h1).toNat : Int) % 4294967296 * 256 % 4294967296)) ((((ByteArray.mk #[x0, x1, x2, x3])[2]'h2).toNat : Int) % 4294967296 * 65536 % 4294967296)) ((((ByteArray.mk #[x0, x1, x2, x3])[3]'h3).toNat : Int) % 4294967296 * 16777216 % 4294967296)
      = wv (BitVec.ofNat 32 (x0.toNat + 256 * x1.toNat + 65536 * x2.toNat + 16777216 * x3.toNat)) :=
  le_or4 x0.toNat x1.toNat x2.toNat x3.toNat x0.toNat_lt x1.toNat_lt x2.toNat_lt x3.toNat_lt

set_option maxRecDepth 100000 in
set_option maxHeartbeats 1000000 in
theorem fill_any (b o n c T : Nat) (cs : Array Value) (s : ByteArray) (w : World) (ho : o + n ≤ cs.size) (hs : 4 * n ≤ s.size) (hn : n < 1000) (hr : w.heap[b]? = some (.cells cs T (0, 0))) :
    Calls Tryz.prog 126 #[.slice (some ⟨b, o, none⟩) n c, .string s] w fun e w' => e = .returned (.tuple #[]) ∧ w.grownBy w' (some b) ∧ w'.heap[b]? = some (.cells (fillRow cs o s n) T (0, 0)) := by
  have HR := Lib.hid hr
  have HO := Lib.hid ho
  have HS := Lib.hid hs
  have HN := Lib.hid hn
  clear hr ho hs hn
  go_enter Tryz.func126, Tryz.ntmps126
  go_wp2_with fail
  go_loopw [8] (fun i wr => ∃ i' : Nat, i' ≤ n ∧ i = .int .i64 i' ∧ w.grownBy wr (some b) ∧ wr.heap[b]? = some (.cells (fillRow cs o s i') T (0, 0))) (fun i _ => n - (intOf i).toNat)
  case atStart => exact ⟨0, by omega, rfl, World.grownBy.refl w _, HR.out⟩
  case round =>
    obtain ⟨j, hj, rfl, hg, hr⟩ := hrel
    have HG := Lib.hid hg
    have HR2 := Lib.hid hr
    clear hg hr
    by_cases hlt : j < n
    · have jn : (0 : Int) ≤ j := by omega
      have ji : (j : Int) < n := by omega
      have b1 := HS.out
      have b2 := HN.out
      have h1 : (4 : Int) * j + 4 ≤ s.size := by omega
      have h2 : (4 : Int) * j ≤ 4 * j + 4 := by omega
      clear b1
      go_wp2_with fail
      have hq := ext4Ch s j (by have := HS.out; omega)
      generalize hx0 : s.data.toList.getD (4 * j) 0 = x0 at hq
      have HX0 := Lib.hid hx0
      clear hx0
      generalize hx1 : s.data.toList.getD (4 * j + 1) 0 = x1 at hq
      have HX1 := Lib.hid hx1
      clear hx1
      generalize hx2 : s.data.toList.getD (4 * j + 2) 0 = x2 at hq
      have HX2 := Lib.hid hx2
      clear hx2
      generalize hx3 : s.data.toList.getD (4 * j + 3) 0 = x3 at hq
      have HX3 := Lib.hid hx3
      clear hx3
      rw [hq]
      clear hq
      refine wp_region_draws_tail 20 (by kernel_rfl) (by kernel_rfl) ?_
      simp only [List.take_succ_cons, List.take_zero, List.drop_succ_cons, List.drop_zero]
      repeat (go_big_quiet_step (fail))
      refine wpQuiet_nil ?_
      intro _ hw'
      obtain ⟨k, hw''⟩ := hw'
      subst hw''
      rw [le_or4q x0 x1 x2 x3]
      generalize hV : BitVec.ofNat 32 _ = V
      have hVL : leW s j = V := by rw [← hV, leW, byt, byt, byt, byt, HX0.out, HX1.out, HX2.out, HX3.out]
      have hjs : o + j < (fillRow cs o s j).size := by rw [size_fillRow]; have := HO.out; omega
      have hc : wr.cell? ⟨b, o + j, none⟩ = some ((fillRow cs o s j)[o + j]'hjs) := by rw [cell_of_row wr b (o + j) _ _ _ HR2.out]; simp [hjs]
      have hf := frozen_of_row wr b (o + j) _ _ HR2.out
      generalize (fillRow cs o s j)[o + j]'hjs = u at hc
      have HV := Lib.hid hVL
      clear hV hVL hjs
      go_wp2_with fail
      go_roundw
      case rel =>
        refine ⟨j + 1, by omega, by go_num, grown_setCh HG.out k (o + j) _, ?_⟩
        rw [fillRow, HV.out]
        exact row_setCh HR2.out k (o + j) _
      case measure => simp [intOf]; omega
    · go_wp2_with fail
      have : j = n := by omega
      subst this
      refine bodyPost_end (results_none rfl _ _ _) rfl ⟨rfl, HG.out, HR2.out⟩
end Go.Proofs.YtfckjilhkdlpfaaGreatDoor

namespace Go.Proofs.YtfckjilhkdlpfaaGreatDoor
open Go.RowKit MS
theorem sum_le4 (a b c d : Nat) (hb : b < 256) (hc : c < 256) (hd : d < 256) :
    ((((a : Int) + 256 * ((b : Int) % 4294967296) + 65536 * ((c : Int) % 4294967296)) % 4294967296 + 16777216 * ((d : Int) % 4294967296) % 4294967296) % 4294967296) = wv (BitVec.ofNat 32 (a + 256 * b + 65536 * c + 16777216 * d)) := by
  unfold wv
  rw [BitVec.toNat_ofNat, Int.natCast_emod]
  have e : ((a + 256 * b + 65536 * c + 16777216 * d : Nat) : Int) = (a : Int) + 256 * b + 65536 * c + 16777216 * d := by
    rw [Int.natCast_add, Int.natCast_add, Int.natCast_add, Int.natCast_mul, Int.natCast_mul, Int.natCast_mul]; rfl
  rw [e]
  have hb' : (b : Int) % 4294967296 = b := Int.emod_eq_of_lt (by omega) (by omega)
  have hc' : (c : Int) % 4294967296 = c := Int.emod_eq_of_lt (by omega) (by omega)
  have hd' : (d : Int) % 4294967296 = d := Int.emod_eq_of_lt (by omega) (by omega)
  rw [hb', hc', hd', ← Int.add_emod]
  rfl
theorem byt_get (s : ByteArray) (p : Nat) (h : p < s.size) : byt s p = (s[p]'h).toNat := by
  have hl : p < s.data.toList.length := by simpa using h
  unfold byt
  rw [List.getD_eq_getElem?_getD, List.getElem?_eq_getElem hl]
  rfl

set_option maxHeartbeats 400000 in
theorem word_any (s : ByteArray) (i : Nat) (h : 4 * i + 4 ≤ s.size) (hi : i < 1000) (w : World) :
    Calls Tryz.prog 112 #[.string s, .int .i64 (4 * (i : Int))] w fun e w' => e = .returned (.int .u32 (wv (leW s i))) ∧ ∃ k, w' = w.drewN k := by
  have j0 : (0 : Int) ≤ 4 * (i : Int) := by omega
  have j1 : (0 : Int) ≤ 4 * (i : Int) + 1 := by omega
  have j2 : (0 : Int) ≤ 4 * (i : Int) + 2 := by omega
  have j3 : (0 : Int) ≤ 4 * (i : Int) + 3 := by omega
  have l0 : 4 * (i : Int) < s.size := by omega
  have l1 : 4 * (i : Int) + 1 < s.size := by omega
  have l2 : 4 * (i : Int) + 2 < s.size := by omega
  have l3 : 4 * (i : Int) + 3 < s.size := by omega
  have ib : (i : Int) < 1000 := by omega
  have H := Lib.hid h
  have HI := Lib.hid hi
  clear h hi
  go_enter Tryz.func112, Tryz.ntmps112
  go_wp2
  go_quiet (fail)
  go_wp2
  go_ret
  refine ⟨?_, _, rfl⟩
  have h := H.out
  have z := sum_le4 (s[4 * i]'(by omega)).toNat (s[4 * i + 1]'(by omega)).toNat (s[4 * i + 2]'(by omega)).toNat (s[4 * i + 3]'(by omega)).toNat (s[4 * i + 1]'(by omega)).toNat_lt (s[4 * i + 2]'(by omega)).toNat_lt (s[4 * i + 3]'(by omega)).toNat_lt
  rw [leW, byt_get s (4 * i) (by omega), byt_get s (4 * i + 1) (by omega), byt_get s (4 * i + 2) (by omega), byt_get s (4 * i + 3) (by omega), ← z]
  rfl
end Go.Proofs.YtfckjilhkdlpfaaGreatDoor

namespace Go.Proofs.YtfckjilhkdlpfaaGreatDoor
open Go.RowKit MS
def fillW (s : Array W32) (o : Nat) (t : ByteArray) : Nat → Array W32
  | 0 => s
  | i + 1 => (fillW s o t i).setIfInBounds (o + i) (leW t i)
theorem fillRow_rowW (s : Array W32) (o : Nat) (t : ByteArray) (n : Nat) : fillRow (rowWCh s) o t n = rowWCh (fillW s o t n) := by
  induction n with
  | zero => rfl
  | succ n ih => rw [fillRow, ih, rowW_setCh]; rfl
theorem size_fillW (s : Array W32) (o : Nat) (t : ByteArray) (n : Nat) : (fillW s o t n).size = s.size := by
  induction n with
  | zero => rfl
  | succ n ih => simp [fillW, ih]
def cst : ByteArray := ByteArray.mk #[101, 120, 112, 97, 110, 100, 32, 51, 50, 45, 98, 121, 116, 101, 32, 107]
def iw (k n : ByteArray) (c : W32) : Array W32 := fillW ((fillW (fillW (Array.replicate 16 0) 0 cst 4) 4 k 8).setIfInBounds 12 c) 13 n 3
theorem size_iw (k n : ByteArray) (c : W32) : (iw k n c).size = 16 := by simp [iw, size_fillW]

structure BSt (B : Nat) (w0 : World) (t : Array W32) (w : World) : Prop where
  r0 : w.heap[B]? = some (.cells (rowWCh (Array.replicate 16 0)) 123 (0, 0))
  r1 : w.heap[B + 1]? = some (.cells (rowWCh t) 123 (0, 0))
  bel : Below B w0 w
theorem BSt.step {B : Nat} {w0 w w' : World} {t t' : Array W32} (h : BSt B w0 t w) (hg : w.grownBy w' (some (B + 1))) (hr : w'.heap[B + 1]? = some (.cells (rowWCh t') 123 (0, 0))) : BSt B w0 t' w' := by
  have l0 : B < w.heap.size := (Array.getElem?_eq_some_iff.1 h.r0).1
  exact ⟨(hg.block B l0 (by simp)).trans h.r0, hr, h.bel.grown hg (by omega) (by intro k e; cases e; omega)⟩
theorem bst_start (w : World) : BSt w.heap.size w (Array.replicate 16 0) ((w.alloc (.cells (rowWCh (Array.replicate 16 0)) 123 (0, 0))).alloc (.cells (rowWCh (Array.replicate 16 0)) 123 (0, 0))) := by
  have hw := Below.refl w.heap.size w
  generalize hX : Obj.cells (rowWCh (Array.replicate 16 0)) 123 (0, 0) = X
  have s1 : (w.alloc X).heap.size = w.heap.size + 1 := World.size_alloc _ _
  have e1 : ((w.alloc X).alloc X).heap[w.heap.size]? = some X := ((MapKept.heap_alloc (w.alloc X) X).2 _ (by omega)).trans (MapKept.heap_alloc w X).1
  have f1 : ((w.alloc X).alloc X).heap[w.heap.size + 1]? = some X := by rw [← s1]; exact (MapKept.heap_alloc _ X).1
  subst hX
  exact ⟨e1, f1, below_alloc (below_alloc hw _) _⟩
theorem z16 : rowWCh (Array.replicate 16 0) = #[.int .u32 0, .int .u32 0, .int .u32 0, .int .u32 0, .int .u32 0, .int .u32 0, .int .u32 0, .int .u32 0, .int .u32 0, .int .u32 0, .int .u32 0, .int .u32 0, .int .u32 0, .int .u32 0, .int .u32 0, .int .u32 0] := by
  unfold rowWCh
  rw [Array.map_replicate]
  rfl
theorem bst_start' (w : World) : BSt w.heap.size w (Array.replicate 16 0) ((w.alloc (.cells #[.int .u32 0, .int .u32 0, .int .u32 0, .int .u32 0, .int .u32 0, .int .u32 0, .int .u32 0, .int .u32 0, .int .u32 0, .int .u32 0, .int .u32 0, .int .u32 0, .int .u32 0, .int .u32 0, .int .u32 0, .int .u32 0] 123 (0, 0))).alloc (.cells #[.int .u32 0, .int .u32 0, .int .u32 0, .int .u32 0, .int .u32 0, .int .u32 0, .int .u32 0, .int .u32 0, .int .u32 0, .int .u32 0, .int .u32 0, .int .u32 0, .int .u32 0, .int .u32 0, .int .u32 0, .int .u32 0] 123 (0, 0))) := by
  rw [← z16]
  exact bst_start w
theorem results_cell_tmp {P : Program} {fn : Func} {p q : Tmp} {ty : TypeId} (h : fn.results = #[.cell p ty, .tmp q]) (tmps : Array Value) (w : World) (g : Nat) (t : TypeId) (cs : Array Value) (fr : Nat × Nat) (d : TypeDesc)
    (hp : tmps.getD p undef = .pointer (some ⟨g, 0, none⟩)) (v : Value) (hv : tmps.getD q undef = v) (hg : w.heap[g]? = some (.cells cs t fr))
    (hu : P.underlying ty = some d) (hd : (match d with | .struct _ | .array _ _ => true | _ => false) = true) (hi : (P.info? ty).map (·.size) = some cs.size) :
    (results fn tmps).run P w = .ok (.tuple #[.agg cs, v]) w := by
  have hp' : tmps[p]?.getD undef = .pointer (some ⟨g, 0, none⟩) := by simpa using hp
  have hv' : tmps[q]?.getD undef = v := by simpa using hv
  simp [results, h, hp', hv', asAddr, run_loadVar_row w g t ty cs fr d hg hu hd hi]

set_option maxRecDepth 100000 in
set_option maxHeartbeats 1000000 in
theorem begin_yes (k n : ByteArray) (c : W32) (w : World) (hk : k.size = 32) (hn : n.size = 12) :
    Calls Tryz.prog 94 #[.string k, .string n, .int .u32 (wv c)] w fun e w' => e = .returned (.tuple #[.agg (rowWCh (iw k n c)), .bool true]) ∧ Below w.heap.size w w' := by
  have gk : ((k.size : Nat) : Int) = 32 := by omega
  have gn : ((n.size : Nat) : Int) = 12 := by omega
  have HK := Lib.hid hk
  have HN := Lib.hid hn
  have HB := Lib.hid (bst_start' w)
  clear hk hn
  go_enter Tryz.func94, Tryz.ntmps94
  go_wp2_with fail
  have st0 := HB.out
  generalize World.alloc _ _ = w0 at st0 ⊢
  change Calls _ _ #[_, .string cst] _ _
  refine (fill_any (w.heap.size + 1) 0 4 16 123 (rowWCh (Array.replicate 16 0)) cst _ (by simp [rowWCh]) (by decide) (by decide) st0.r1).mono ?_
  rintro e w1 ⟨rfl, hg, hr⟩
  rw [fillRow_rowW] at hr
  have st1 := st0.step hg hr
  have z1 := size_fillW (Array.replicate 16 0) 0 cst 4
  generalize hq1 : fillW (Array.replicate 16 0) 0 cst 4 = t1 at st1 z1
  have H1 := Lib.hid hq1
  have Z1 := Lib.hid (show t1.size = 16 by rw [z1]; rfl)
  clear hg hr hq1 z1 st0
  go_wp2_with fail
  refine (fill_any (w.heap.size + 1) 4 8 12 123 (rowWCh t1) k _ (by rw [size_rowWCh, Z1.out]; decide) (by rw [HK.out]; decide) (by decide) st1.r1).mono ?_
  rintro e w2 ⟨rfl, hg, hr⟩
  rw [fillRow_rowW] at hr
  have st2 := st1.step hg hr
  have z2 := size_fillW t1 4 k 8
  generalize hq2 : fillW t1 4 k 8 = t2 at st2 z2
  have H2 := Lib.hid hq2
  have Z2 := Lib.hid (show t2.size = 16 by rw [z2, Z1.out])
  clear hg hr hq2 z2 st1
  have hj : 12 < (rowWCh t2).size := by rw [size_rowWCh, Z2.out]; decide
  have hc : w2.cell? ⟨w.heap.size + 1, 12, none⟩ = some ((rowWCh t2)[12]'hj) := by rw [cell_of_row w2 (w.heap.size + 1) 12 _ _ _ st2.r1]; simp [hj]
  have hf := frozen_of_row w2 (w.heap.size + 1) 12 _ _ st2.r1
  generalize (rowWCh t2)[12]'hj = u at hc
  clear hj
  have ST2 := Lib.hid st2
  clear st2
  go_wp2_with fail
  have hr3 := row_setCh ST2.out.r1 0 12 (.int .u32 (wv c))
  have hg3 := grown_setCh (World.grownBy.refl w2 (some (w.heap.size + 1))) 0 12 (.int .u32 (wv c))
  rw [rowW_setCh] at hr3
  have st3 := ST2.out.step hg3 hr3
  have Z3 := Lib.hid (show (t2.setIfInBounds 12 c).size = 16 by simp [Z2.out])
  refine (fill_any (w.heap.size + 1) 13 3 3 123 (rowWCh (t2.setIfInBounds 12 c)) n _ (by rw [size_rowWCh, Z3.out]; decide) (by rw [HN.out]; decide) (by decide) st3.r1).mono ?_
  rintro e w4 ⟨rfl, hg, hr⟩
  rw [fillRow_rowW] at hr
  have st4 := st3.step hg hr
  have hiw : fillW (t2.setIfInBounds 12 c) 13 n 3 = iw k n c := by rw [iw, H1.out, H2.out]
  rw [hiw] at st4
  have hz := size_iw k n c
  generalize hI : iw k n c = I at st4 hz
  have HIW := Lib.hid hI
  clear hg hr hiw st3 hr3 hg3 hI hc hf
  have HI := Lib.hid (show (Tryz.prog.info? 123).map (·.size) = some (rowWCh I).size by rw [size_rowWCh, hz]; kernel_rfl)
  have HO := Lib.hid (show (rowWCh I).all (·.oneCell') = true by simp [rowWCh, Value.oneCell'])
  have HL := Lib.hid (show (rowWCh (Array.replicate 16 0)).size = (rowWCh I).size by rw [size_rowWCh, size_rowWCh, hz]; rfl)
  have HR0 := Lib.hid st4.r0
  have HR1 := Lib.hid st4.r1
  have HBL := Lib.hid st4.bel
  clear st4 hz
  go_wp2_with (first
    | (with_reducible refine wpList_load_row rfl 123 (.tmp 8) rfl (w.heap.size + 1) rfl 123 (rowWCh I) (0, 0) _ HR1.out Tryz.underlying123 rfl HI.out ?_)
    | (with_reducible refine wpList_store_row rfl 123 (.tmp 6) (.tmp 28) rfl w.heap.size (rowWCh I) rfl rfl 123 (rowWCh (Array.replicate 16 0)) HR0.out HI.out HL.out HO.out ?_))
  refine bodyPost_ret (results_cell_tmp rfl _ _ w.heap.size 123 (rowWCh I) (0, 0) _ rfl _ rfl (setRow_heap _ _ _ _ _ _ HR0.out) Tryz.underlying123 rfl HI.out) rfl ⟨by rw [HIW.out]; rfl, ?_⟩
  exact below_setRowCh HBL.out (Nat.le_refl _) _
end Go.Proofs.YtfckjilhkdlpfaaGreatDoor

namespace Go.Proofs.YtfckjilhkdlpfaaGreatDoor
open Go.RowKit MS
def obB (x : W32) : Nat → UInt8
  | 0 => UInt8.ofNat (x.toNat % 256)
  | 1 => UInt8.ofNat (x.toNat / 256 % 256)
  | 2 => UInt8.ofNat (x.toNat / 65536 % 256)
  | _ => UInt8.ofNat (x.toNat / 16777216 % 256)
def valBCh (b : UInt8) : Value := .int .u8 (b.toNat : Int)
theorem byte_val (m : Nat) : ((UInt8.ofNat (m % 256)).toNat : Int) = (m : Int) % 256 := by
  have : (UInt8.ofNat (m % 256)).toNat = m % 256 := by simp
  rw [this]; omega
theorem ob_val (x : W32) : ∀ j, ob x j = valBCh (obB x j)
  | 0 => by
    show Value.int .u8 (wv x % 256) = .int .u8 ((UInt8.ofNat (x.toNat % 256)).toNat : Int)
    rw [byte_val]; rfl
  | 1 => by
    show Value.int .u8 (wv x / 256 % 256) = .int .u8 ((UInt8.ofNat (x.toNat / 256 % 256)).toNat : Int)
    rw [byte_val, Int.natCast_ediv]; rfl
  | 2 => by
    show Value.int .u8 (wv x / 65536 % 256) = .int .u8 ((UInt8.ofNat (x.toNat / 65536 % 256)).toNat : Int)
    rw [byte_val, Int.natCast_ediv]; rfl
  | _ + 3 => by
    show Value.int .u8 (wv x / 16777216 % 256) = .int .u8 ((UInt8.ofNat (x.toNat / 16777216 % 256)).toNat : Int)
    rw [byte_val, Int.natCast_ediv]; rfl
def oB (z : Nat → W32) : Nat → Array UInt8
  | 0 => Array.replicate 64 0
  | i + 1 => ((((oB z i).setIfInBounds (4 * i) (obB (z i) 0)).setIfInBounds (4 * i + 1) (obB (z i) 1)).setIfInBounds (4 * i + 2) (obB (z i) 2)).setIfInBounds (4 * i + 3) (obB (z i) 3)
theorem orow_oB (z : Nat → W32) (i : Nat) : orow z i = (oB z i).map valBCh := by
  induction i with
  | zero => rw [orow, oB, Array.map_replicate]; rfl
  | succ i ih => rw [orow, oB, Array.map_setIfInBounds, Array.map_setIfInBounds, Array.map_setIfInBounds, Array.map_setIfInBounds, ih, ob_val, ob_val, ob_val, ob_val]
/-- The block's bytes. -/
def blkB (s : Array W32) : ByteArray := ⟨oB (zz (drs 10 s) s) 16⟩
theorem blk_blkB (s : Array W32) : blk s = (ls (blkB s)).toArray.map valBCh := by
  show orow _ 16 = _
  rw [orow_oB]
  show _ = ((oB (zz (drs 10 s) s) 16).toList.toArray).map valBCh
  rw [Array.toArray_toList]
end Go.Proofs.YtfckjilhkdlpfaaGreatDoor

namespace Go.Proofs.YtfckjilhkdlpfaaGreatDoor
open Go.RowKit MS
theorem z64 : Array.replicate 64 (Value.int .u8 0) = (#[.int .u8 0, .int .u8 0, .int .u8 0, .int .u8 0, .int .u8 0, .int .u8 0, .int .u8 0, .int .u8 0, .int .u8 0, .int .u8 0, .int .u8 0, .int .u8 0, .int .u8 0, .int .u8 0, .int .u8 0, .int .u8 0, .int .u8 0, .int .u8 0, .int .u8 0, .int .u8 0, .int .u8 0, .int .u8 0, .int .u8 0, .int .u8 0, .int .u8 0, .int .u8 0, .int .u8 0, .int .u8 0, .int .u8 0, .int .u8 0, .int .u8 0, .int .u8 0, .int .u8 0, .int .u8 0, .int .u8 0, .int .u8 0, .int .u8 0, .int .u8 0, .int .u8 0, .int .u8 0, .int .u8 0, .int .u8 0, .int .u8 0, .int .u8 0, .int .u8 0, .int .u8 0, .int .u8 0, .int .u8 0, .int .u8 0, .int .u8 0, .int .u8 0, .int .u8 0, .int .u8 0, .int .u8 0, .int .u8 0, .int .u8 0, .int .u8 0, .int .u8 0, .int .u8 0, .int .u8 0, .int .u8 0, .int .u8 0, .int .u8 0, .int .u8 0] : Array Value) := rfl
theorem conv_blk (w : World) (b : Nat) (s : Array W32) (hb : w.heap[b]? = some (.cells (blk s) 126 (0, 0))) (hs : (blk s).size = 64) :
    (convert 83 9 (.slice (some ⟨b, 0, none⟩) 64 64)).run Tryz.prog w = .ok (.string (blkB s)) w := by
  have hl : (ls (blkB s)).length = 64 := by rw [blk_blkB] at hs; simpa using hs
  have := run_block_to_string (P := Tryz.prog) w 83 9 5 Tryz.underlying83 Tryz.underlying5 Tryz.underlying9 b 64 64 126 (0, 0) (ls (blkB s)) (blk s) hb hl (fun j h => by
    rw [blk_blkB]
    simp [valBCh, h])
  rw [bs_ls] at this
  exact this

set_option maxRecDepth 100000 in
set_option maxHeartbeats 1000000 in
theorem block_yes (k n : ByteArray) (c : W32) (w : World) (hk : k.size = 32) (hn : n.size = 12) :
    Calls Tryz.prog 90 #[.string k, .string n, .int .u32 (wv c)] w fun e w' => e = .returned (.tuple #[.string (blkB (iw k n c)), .bool true]) ∧ Below w.heap.size w w' := by
  have H1 := Lib.hid (begin_yes k n c w hk hn)
  have hz := size_iw k n c
  generalize hI : iw k n c = I at H1 hz
  have H2 := Lib.hid (fun w => finish_anyCh I w hz)
  have hb64 : (blk I).size = 64 := size_orow _ _
  have HB64 := Lib.hid hb64
  have HIW := Lib.hid hI
  have HI := Lib.hid (show (Tryz.prog.info? 123).map (·.size) = some (rowWCh I).size by rw [size_rowWCh, hz]; kernel_rfl)
  have HI5 := Lib.hid (show (Tryz.prog.info? 126).map (·.size) = some (blk I).size by rw [hb64]; kernel_rfl)
  have HO := Lib.hid (show (rowWCh I).all (·.oneCell') = true by simp [rowWCh, Value.oneCell'])
  have HO5 := Lib.hid (show (blk I).all (·.oneCell') = true from all_orow _ _)
  have HL := Lib.hid (show (Array.replicate 16 (Value.int .u32 0)).size = (rowWCh I).size by rw [size_rowWCh, hz]; rfl)
  have HL5 := Lib.hid (show (Array.replicate 64 (Value.int .u8 0)).size = (blk I).size by rw [hb64]; rfl)
  clear hk hn hz hI hb64
  go_enter Tryz.func90, Tryz.ntmps90
  go_wp2_with fail
  refine H1.out.mono ?_
  rintro e w1 ⟨rfl, hb1⟩
  have HR := Lib.hid ((MapKept.heap_alloc w1 (.cells (Array.replicate 16 (.int .u32 0)) 123 (0, 0))).1)
  have HR' := Lib.hid (setRow_heap _ _ _ (rowWCh I) _ _ HR.out)
  have HB1 := Lib.hid hb1
  clear hb1
  go_wp2_with (first
    | (with_reducible refine wpList_store_row rfl 123 (.tmp 8) (.tmp 16) rfl w1.heap.size (rowWCh I) rfl rfl 123 (Array.replicate 16 (.int .u32 0)) ?hg HI.out HL.out HO.out ?_)
    | (with_reducible refine wpList_load_row rfl 123 (.tmp 8) rfl w1.heap.size rfl 123 (rowWCh I) (0, 0) _ ?hg2 Tryz.underlying123 rfl HI.out ?_))
  case hg => exact HR.out
  case hg2 => exact HR'.out
  refine (H2.out _).mono ?_
  rintro e w2 ⟨rfl, hb2⟩
  have HS := Lib.hid ((MapKept.heap_alloc w2 (.cells (Array.replicate 64 (.int .u8 0)) 126 (0, 0))).1)
  have HS' := Lib.hid (setRow_heap _ _ _ (blk I) _ _ HS.out)
  have hcv := conv_blk _ w2.heap.size I HS'.out HB64.out
  rw [z64] at hcv
  have HB2 := Lib.hid hb2
  clear hb2
  go_wp2_with (with_reducible refine wpList_store_row rfl 126 (.tmp 10) (.tmp 21) rfl w2.heap.size (blk I) rfl rfl 126 (Array.replicate 64 (.int .u8 0)) ?hg3 HI5.out HL5.out HO5.out ?_)
  case hg3 => exact HS.out
  go_ret2
  refine ⟨by first | rfl | (rw [HIW.out]; rfl), ?_⟩
  refine below_setRowCh (below_alloc ?_ _) (by have := HB1.out.size; have := HB2.out.size; simp at this; omega) _
  exact (below_setRowCh (below_alloc HB1.out _) HB1.out.size _).trans (HB2.out.mono (by have := HB1.out.size; simp; omega))
end Go.Proofs.YtfckjilhkdlpfaaGreatDoor

namespace Go.Proofs.YtfckjilhkdlpfaaGreatDoor
open Go.RowKit MS
def wvsCh (l : List W32) : List Value := l.map (fun x => .int .u32 (wv x))

theorem one_cellCh (w : World) (x : Value) (T : Nat) : ∀ j u, [x][j]? = some u → (w.alloc (.cells #[x] T (0, 0))).cell? ((⟨w.heap.size, 0, none⟩ : Addr).add j) = some u := by
  intro j u hu
  obtain ⟨rfl, rfl⟩ : j = 0 ∧ u = x := by
    cases j with
    | zero => exact ⟨rfl, by simpa using hu.symm⟩
    | succ m => simp at hu
  exact cell_of_row _ _ _ _ _ _ (MapKept.heap_alloc w _).1

theorem one_oneCh (x : Value) (h : x.oneCell' = true) : ∀ u ∈ [x], u.oneCell' = true := by
  intro u hu
  rw [List.mem_singleton.1 hu]
  exact h
theorem le_allocCh {B : Nat} {w : World} (h : B ≤ w.heap.size) (o : Obj) : B ≤ (w.alloc o).heap.size := by
  rw [World.size_alloc]
  exact Nat.le_succ_of_le h
theorem below_appCh {w0 wr w' : World} (hb : Below w0.heap.size w0 wr) (o : Obj) (v : Value) (n : Nat) (e : TypeId) (xs : List Value) (ho : wr.ownsRow w0.heap.size e 1 v n xs) (hg : (wr.alloc o).grownBy w' v.ownBlock) : Below w0.heap.size w0 w' :=
  (below_alloc hb o).grown hg (by rw [World.size_alloc]; exact Nat.le_succ_of_le hb.size) (fun m hm => (ho.lt m hm).1)

def fillG (s : Array W32) (o : Nat) (f : Nat → W32) : Nat → Array W32
  | 0 => s
  | i + 1 => (fillG s o f i).setIfInBounds (o + i) (f i)
theorem fillW_G (s : Array W32) (o : Nat) (t : ByteArray) (i : Nat) : fillW s o t i = fillG s o (leW t) i := by
  induction i with
  | zero => rfl
  | succ i ih => rw [fillW, fillG, ih]
theorem fillG_words (f g h : Nat → W32) (c z : W32) :
    ((((List.range 4).map f ++ (List.range 8).map g) ++ [c]) ++ (List.range 3).map h) = (fillG ((fillG (fillG (Array.replicate 16 z) 0 f 4) 4 g 8).setIfInBounds 12 c) 13 h 3).toList := by
  simp only [fillG, Array.toList_setIfInBounds, Array.toList_replicate]
  rfl
theorem iw_words (k n : ByteArray) (c : W32) :
    ((((List.range 4).map (leW cst) ++ (List.range 8).map (leW k)) ++ [c]) ++ (List.range 3).map (leW n)) = (iw k n c).toList := by
  unfold iw
  rw [fillW_G, fillW_G, fillW_G]
  exact fillG_words _ _ _ _ _

/-- A row that is copied word by word. -/
def cp (S : Array W32) : Nat → Array W32
  | 0 => Array.replicate 16 0
  | j + 1 => (cp S j).setIfInBounds j (S.getD j 0)
theorem size_cp (S : Array W32) (j : Nat) : (cp S j).size = 16 := by
  induction j with
  | zero => simp [cp]
  | succ j ih => simp [cp, ih]
theorem cp_get (S : Array W32) (j i : Nat) (hi : i < 16) : (cp S j)[i]? = some (if i < j then S.getD i 0 else 0) := by
  induction j with
  | zero => simp [cp, hi]
  | succ j ih =>
    rw [cp, Array.getElem?_setIfInBounds, size_cp]
    by_cases h : j = i
    · subst h
      rw [if_pos rfl, if_pos hi, if_pos (Nat.lt_succ_self j)]
    · rw [if_neg h, ih]
      congr 1
      by_cases h2 : i < j
      · rw [if_pos h2, if_pos (by omega)]
      · rw [if_neg h2, if_neg (by omega)]
theorem cp_all (S : Array W32) (hS : S.size = 16) : cp S 16 = S := by
  apply Array.ext_getElem?
  intro i
  by_cases hi : i < 16
  · rw [cp_get S 16 i hi, if_pos hi]
    simp [hS, hi]
  · rw [Array.getElem?_eq_none (by rw [size_cp]; omega), Array.getElem?_eq_none (by rw [hS]; omega)]

/-- What is known of the world behind the first words: they lie at gv; the row that is turned lies at g. -/
structure RStCh (B gv g : Nat) (w0 : World) (S t : Array W32) (cur : Array Value) (w : World) : Prop where
  ne : gv ≠ g
  gev : B ≤ gv
  geg : B ≤ g
  rv : w.heap[gv]? = some (.cells cur 86 (0, 0))
  hc : ∀ j, j < 16 → cur[j]? = some (.int .u32 (wv (S.getD j 0)))
  rg : w.heap[g]? = some (.cells (rowWCh t) 86 (0, 0))
  bel : Below B w0 w
theorem RStCh.step {B gv g : Nat} {w0 w w' : World} {S t t' : Array W32} {cur : Array Value} (h : RStCh B gv g w0 S t cur w) (hg : w.grownBy w' (some g)) (hr : w'.heap[g]? = some (.cells (rowWCh t') 86 (0, 0))) : RStCh B gv g w0 S t' cur w' := by
  have l0 : gv < w.heap.size := (Array.getElem?_eq_some_iff.1 h.rv).1
  have lb : B ≤ w.heap.size := Nat.le_of_lt (Nat.lt_of_le_of_lt h.gev l0)
  refine ⟨h.ne, h.gev, h.geg, (hg.block gv l0 (by simp [h.ne])).trans h.rv, h.hc, hr, h.bel.grown hg lb (by intro k e; cases e; exact h.geg)⟩
theorem RStCh.set {B gv g : Nat} {w0 w : World} {S t : Array W32} {cur : Array Value} (h : RStCh B gv g w0 S t cur w) (p : Nat) (x : W32) : RStCh B gv g w0 S (t.setIfInBounds p x) cur (w.setCell ⟨g, p, none⟩ (.int .u32 (wv x))) := by
  refine h.step ⟨rfl, rfl, rfl, by simp, fun k _ hk => heap_setCell_other w ⟨g, p, none⟩ k _ (fun e => hk (by simp [e]))⟩ ?_
  rw [heap_setCell_same w g p (rowWCh t) _ _ h.rg, rowW_setCh]
theorem RStCh.word {B gv g : Nat} {w0 w : World} {S t : Array W32} {cur : Array Value} (h : RStCh B gv g w0 S t cur w) (j : Nat) (hj : j < 16) : w.cell? ⟨gv, j, none⟩ = some (.int .u32 (wv (S.getD j 0))) := by
  rw [cell_of_row w gv j _ _ _ h.rv]
  exact h.hc j hj
theorem RStCh.turned {B gv g : Nat} {w0 w : World} {S t : Array W32} {cur : Array Value} (h : RStCh B gv g w0 S t cur w) (ht : t.size = 16) (j : Nat) (hj : j < 16) : w.cell? ⟨g, j, none⟩ = some (.int .u32 (wv (t.getD j 0))) := by
  rw [cell_of_row w g j _ _ _ h.rg]
  simp [rowWCh, ht, hj]
theorem RStCh.carry {B B2 gv g : Nat} {w0 w w' : World} {S t : Array W32} {cur : Array Value} (h : RStCh B gv g w0 S t cur w) (hB : B ≤ B2) (hv : gv < B2) (hg : g < B2) (hb : Below B2 w w') : RStCh B gv g w0 S t cur w' :=
  ⟨h.ne, h.gev, h.geg, (hb.block gv hv).trans h.rv, h.hc, (hb.block g hg).trans h.rg, h.bel.trans (hb.mono hB)⟩

/-- The row just made. -/
theorem rst_start {B gv cap : Nat} {w0 w w' : World} {S : Array W32} (hS : S.size = 16) (hb : Below B w0 w) (hown : w.ownsRow B 86 1 (.slice (some ⟨gv, 0, none⟩) 16 cap) 16 (wvsCh S.toList))
    (hg : w.grownBy w' none) (hm : w'.ownsRow B 86 1 (.slice (some ⟨w.heap.size, 0, none⟩) 16 16) 16 (madeCells (Value.int .u32 0).cells (16 * 1)).toList) :
    ∃ cur, RStCh B gv w.heap.size w0 S (cp S 0) cur w' := by
  rcases hown.2 with ⟨h', _⟩ | ⟨g', cap', cur, h', hb1, hg1, _, _, hsz, htake⟩
  · simp at h'
  · simp only [Value.slice.injEq, Option.some.injEq, Addr.mk.injEq, and_true, true_and] at h'
    obtain ⟨rfl, rfl⟩ := h'
    have l0 : gv < w.heap.size := (Array.getElem?_eq_some_iff.1 hg1).1
    rcases hm.2 with ⟨h2, _⟩ | ⟨g2, cap2, cur2, h2, hb2, hg2, _, _, hsz2, htake2⟩
    · simp at h2
    · simp only [Value.slice.injEq, Option.some.injEq, Addr.mk.injEq, and_true, true_and] at h2
      obtain ⟨rfl, rfl⟩ := h2
      have hcur2 : cur2 = rowWCh (cp S 0) := by
        apply Array.toList_inj.1
        rw [List.take_of_length_le (by rw [Array.length_toList, hsz2]; exact Nat.le_refl _)] at htake2
        rw [htake2, show (Value.int .u32 0).cells = #[.int .u32 0] from rfl, toList_madeCells_one, rowWCh, cp, Array.toList_map, Array.toList_replicate, List.map_replicate]
        rfl
      refine ⟨cur, by omega, hb1, hb2, (hg.block gv l0 (by simp)).trans hg1, ?_, by rw [← hcur2]; exact hg2, hb.grown hg (by omega) (by intro k e; cases e)⟩
      intro j hj
      have : (cur.toList.take (16 * 1))[j]? = (wvsCh S.toList)[j]? := by rw [htake]
      rw [List.getElem?_take, if_pos (by omega), Array.getElem?_toList] at this
      rw [this]
      simp [wvsCh, hS, hj]

/-- The block's bytes, as a list. -/
def bl (z : Nat → W32) : Nat → List UInt8
  | 0 => []
  | i + 1 => bl z i ++ [obB (z i) 0] ++ [obB (z i) 1] ++ [obB (z i) 2] ++ [obB (z i) 3]
theorem length_bl (z : Nat → W32) (i : Nat) : (bl z i).length = 4 * i := by
  induction i with
  | zero => rfl
  | succ i ih => simp [bl, ih]; omega
def oG (F : Nat → Nat → UInt8) : Nat → Array UInt8
  | 0 => Array.replicate 64 0
  | i + 1 => ((((oG F i).setIfInBounds (4 * i) (F i 0)).setIfInBounds (4 * i + 1) (F i 1)).setIfInBounds (4 * i + 2) (F i 2)).setIfInBounds (4 * i + 3) (F i 3)
def bG (F : Nat → Nat → UInt8) : Nat → List UInt8
  | 0 => []
  | i + 1 => bG F i ++ [F i 0] ++ [F i 1] ++ [F i 2] ++ [F i 3]
theorem oB_G (z : Nat → W32) (i : Nat) : oB z i = oG (fun i j => obB (z i) j) i := by
  induction i with
  | zero => rfl
  | succ i ih => rw [oB, oG, ih]
theorem bl_G (z : Nat → W32) (i : Nat) : bl z i = bG (fun i j => obB (z i) j) i := by
  induction i with
  | zero => rfl
  | succ i ih => rw [bl, bG, ih]
theorem length_bG (F : Nat → Nat → UInt8) (i : Nat) : (bG F i).length = 4 * i := by
  induction i with
  | zero => rfl
  | succ i ih => simp [bG, ih]; omega
theorem set_app (l r : List UInt8) (x v : UInt8) (p : Nat) (hp : l.length = p) : (l ++ x :: r).set p v = (l ++ [v]) ++ r := by
  subst hp
  simp
theorem oG_list (F : Nat → Nat → UInt8) (i m : Nat) (h : 4 * i + m = 64) : (oG F i).toList = bG F i ++ List.replicate m 0 := by
  induction i generalizing m with
  | zero =>
    obtain rfl : m = 64 := by omega
    simp [oG, bG]
  | succ i ih =>
    have h4 := ih (m + 4) (by omega)
    have hl := length_bG F i
    rw [oG, bG, Array.toList_setIfInBounds, Array.toList_setIfInBounds, Array.toList_setIfInBounds, Array.toList_setIfInBounds, h4, List.replicate_succ, List.replicate_succ, List.replicate_succ, List.replicate_succ,
      set_app _ _ _ _ _ hl, set_app _ _ _ _ _ (by simp [hl]), set_app _ _ _ _ _ (by simp [hl]), set_app _ _ _ _ _ (by simp [hl])]
theorem oG_bG (F : Nat → Nat → UInt8) : (oG F 16).toList = bG F 16 := by
  have := oG_list F 16 0 rfl
  simpa using this
theorem bl_oB (z : Nat → W32) : (oB z 16).toList = bl z 16 := by rw [oB_G, bl_G, oG_bG]
def vlsCh (l : List UInt8) : List Value := l.map valBCh
theorem vls_appCh (l : List UInt8) (b : UInt8) : vlsCh (l ++ [b]) = vlsCh l ++ [valBCh b] := by simp [vlsCh]

theorem bs_bl (S : Array W32) : bs (bl (zz (drs 10 S) S) 16) = blkB S := by
  rw [← bl_oB]
  exact bs_ls (blkB S)
def blv (z : Nat → W32) : Nat → List Value
  | 0 => []
  | i + 1 => blv z i ++ [ob (z i) 0] ++ [ob (z i) 1] ++ [ob (z i) 2] ++ [ob (z i) 3]
theorem blv_bl (z : Nat → W32) (i : Nat) : blv z i = vlsCh (bl z i) := by
  induction i with
  | zero => rfl
  | succ i ih => rw [blv, bl, vls_appCh, vls_appCh, vls_appCh, vls_appCh, ih, ob_val, ob_val, ob_val, ob_val]
theorem conv_outCh {B2 cap g : Nat} {w : World} (l : List UInt8) (n : Nat) (hl : l.length = n) (hown : w.ownsRow B2 5 1 (.slice (some ⟨g, 0, none⟩) n cap) n (vlsCh l)) :
    (convert 83 9 (.slice (some ⟨g, 0, none⟩) n cap)).run Tryz.prog w = .ok (.string (bs l)) w := by
  refine run_bytes_to_string w 83 9 5 Tryz.underlying83 Tryz.underlying5 Tryz.underlying9 g 0 n cap l hl (fun j h => ?_)
  have := hown.cellAt j (by omega)
  rw [Nat.zero_add, this]
  simp [vlsCh, valBCh, h]
end Go.Proofs.YtfckjilhkdlpfaaGreatDoor

namespace Go.Proofs.YtfckjilhkdlpfaaGreatDoor
open Go.RowKit MS
attribute [local go_sem] w_add
set_option maxRecDepth 100000 in
set_option maxHeartbeats 600000 in
theorem rblock (k n : ByteArray) (c : W32) (w : World) (hk : k.size = 32) (hn : n.size = 12) :
    Calls Tryz.prog 83 #[.string k, .string n, .int .u32 (wv c)] w fun e w' => e = .returned (.string (blkB (iw k n c))) ∧ Below w.heap.size w w' := by
  obtain ⟨i0, hi, hz0, hz1, hz2⟩ : ∃ i, Tryz.prog.info? 86 = some i ∧ i.zero = some (.int .u32 0) ∧ i.size = 1 ∧ i.bytes = 4 := ⟨_, rfl, rfl, rfl, rfl⟩
  obtain ⟨i8, hj0, hy0, hy1, hy2⟩ : ∃ i, Tryz.prog.info? 5 = some i ∧ i.zero = some (.int .u8 0) ∧ i.size = 1 ∧ i.bytes = 1 := ⟨_, rfl, rfl, rfl, rfl⟩
  have HK := Lib.hid hk
  have HN := Lib.hid hn
  clear hk hn
  have hown0 : w.ownsRow w.heap.size 86 1 (.slice none 0 0) 0 (wvsCh []) := ⟨rfl, .inl ⟨rfl, rfl⟩⟩
  go_enter Tryz.func83, Tryz.ntmps83
  go_wp2_with fail
  go_loopw [7, 8] (fun v i wr => ∃ j : Nat, j ≤ 4 ∧ i = .int .i64 (4 * (j : Int)) ∧ wr.ownsRow w.heap.size 86 1 v (j) (wvsCh ((List.range j).map (leW cst))) ∧ Below w.heap.size w wr) (fun _ i _ => 16 - (intOf i).toNat)
  case atStart => exact ⟨0, by omega, rfl, hown0, Below.refl _ _⟩
  case round =>
    obtain ⟨j, hj, rfl, hown, hnx⟩ := hrel
    have HOWN := Lib.hid hown
    have HNX := Lib.hid hnx
    clear hown hnx hown0
    by_cases hjN : j < 4
    · go_wp2_with fail
      change Calls _ _ #[.string cst, _] _ _
      refine (word_any cst j (by show 4 * j + 4 ≤ 16; omega) (by omega) wr).mono ?_
      rintro e w2 ⟨rfl, kk, rfl⟩
      have hown2 : ((wr.drewN kk).alloc (.cells #[.int .u32 (wv (leW cst j))] 86 (0, 0))).ownsRow w.heap.size 86 1 u7 (j) (wvsCh ((List.range j).map (leW cst))) := HOWN.out.alloc _
      have HOWN2 := Lib.hid hown2
      have hsz := HNX.out.size
      clear hown2
      go_wp2_with (at_builtin; refine wpList_append_own _ rfl (.tmp 21) (.tmp 24) 136 rfl w.heap.size 86 i0 (.int .u32 0) 1 4 Tryz.underlying136 hi hz0 hz1 hz2 rfl (by decide) _ _ _ rfl HOWN2.out ⟨wr.heap.size, 0, none⟩ 1 1 [.int .u32 (wv (leW cst j))] rfl rfl ?c1 ?c2 ?c3 ?c4 ?c5 ?_)
      try case c1 => exact one_cellCh (wr.drewN kk) _ _
      try case c2 => first | rfl | (intro u hu; rw [List.mem_singleton.1 hu]; rfl)
      try case c3 => unfold maxLen; omega
      try case c4 => omega
      try case c5 => rw [World.size_alloc]; exact Nat.le_succ_of_le hsz
      intro v' w' h1 h2 h3
      go_wp2_with fail
      go_roundw
      case rel =>
        refine ⟨j + 1, by omega, by simp; omega, ?_, ?_⟩
        · rw [List.range_succ, List.map_append]
          unfold wvsCh
          rw [List.map_append]
          exact h1
        · exact below_appCh (wr := wr.drewN kk) ⟨HNX.out.os, HNX.out.tape, HNX.out.output, HNX.out.size, HNX.out.block⟩ _ _ _ _ _ HOWN.out h2
      case measure => simp [intOf]; omega
    · have hj4 : j = 4 := by omega
      have HO1 := HOWN.out
      have HB1 := HNX.out
      rw [hj4] at HO1
      have hge : ¬ (4 * (j : Int) < 16) := by omega
      generalize 4 * (j : Int) = J4 at *
      clear hj4 hjN
      generalize hL1 : (List.range 4).map (leW cst) = L1 at HO1
      have HL1 := Lib.hid hL1
      clear HOWN HNX hL1
      go_wp2_with fail
      go_loopw [7, 9] (fun v i wr => ∃ j : Nat, j ≤ 8 ∧ i = .int .i64 (4 * (j : Int)) ∧ wr.ownsRow w.heap.size 86 1 v (4 + j) (wvsCh (L1 ++ (List.range j).map (leW k))) ∧ Below w.heap.size w wr) (fun _ i _ => 32 - (intOf i).toNat)
      case atStart => exact ⟨0, by omega, rfl, by simpa using HO1, HB1⟩
      case round =>
        obtain ⟨j, hj, rfl, hown, hnx⟩ := hrel
        have HOWN := Lib.hid hown
        have HNX := Lib.hid hnx
        clear hown hnx HO1 HB1
        by_cases hjN : j < 8
        · go_wp2_with fail
          skip
          refine (word_any k j (by rw [HK.out]; omega) (by omega) wr).mono ?_
          rintro e w2 ⟨rfl, kk, rfl⟩
          have hown2 : ((wr.drewN kk).alloc (.cells #[.int .u32 (wv (leW k j))] 86 (0, 0))).ownsRow w.heap.size 86 1 u7 (4 + j) (wvsCh (L1 ++ (List.range j).map (leW k))) := HOWN.out.alloc _
          have HOWN2 := Lib.hid hown2
          have hsz := HNX.out.size
          clear hown2
          go_wp2_with (at_builtin; refine wpList_append_own _ rfl (.tmp 30) (.tmp 34) 136 rfl w.heap.size 86 i0 (.int .u32 0) 1 4 Tryz.underlying136 hi hz0 hz1 hz2 rfl (by decide) _ _ _ rfl HOWN2.out ⟨wr.heap.size, 0, none⟩ 1 1 [.int .u32 (wv (leW k j))] rfl rfl ?c1 ?c2 ?c3 ?c4 ?c5 ?_)
          try case c1 => exact one_cellCh (wr.drewN kk) _ _
          try case c2 => first | rfl | (intro u hu; rw [List.mem_singleton.1 hu]; rfl)
          try case c3 => unfold maxLen; omega
          try case c4 => omega
          try case c5 => rw [World.size_alloc]; exact Nat.le_succ_of_le hsz
          intro v' w' h1 h2 h3
          go_wp2_with fail
          go_roundw
          case rel =>
            refine ⟨j + 1, by omega, by simp; omega, ?_, ?_⟩
            · rw [List.range_succ, List.map_append, ← List.append_assoc]
              unfold wvsCh
              rw [List.map_append]
              exact h1
            · exact below_appCh (wr := wr.drewN kk) ⟨HNX.out.os, HNX.out.tape, HNX.out.output, HNX.out.size, HNX.out.block⟩ _ _ _ _ _ HOWN.out h2
          case measure => simp [intOf]; omega
        · have hj8' : j = 8 := by omega
          have HO2 := HOWN.out
          have HB2 := Lib.hid HNX.out
          have hsz := HNX.out.size
          rw [hj8'] at HO2
          generalize hL2 : L1 ++ (List.range 8).map (leW k) = L2 at HO2
          have HL2 := Lib.hid hL2
          clear hL2
          have HOA := Lib.hid (show (wr.alloc (.cells #[.int .u32 (wv c)] 86 (0, 0))).ownsRow w.heap.size 86 1 u7 12 (wvsCh L2) from HO2.alloc _)
          have HO2' := Lib.hid HO2
          have hge : ¬ (4 * (j : Int) < 32) := by omega
          generalize 4 * (j : Int) = J8 at *
          clear HO2 hj8' hjN HOWN HNX
          go_wp2_with (at_builtin; refine wpList_append_own _ rfl (.tmp 36) (.tmp 38) 136 rfl w.heap.size 86 i0 (.int .u32 0) 1 4 Tryz.underlying136 hi hz0 hz1 hz2 rfl (by decide) _ _ _ rfl HOA.out ⟨wr.heap.size, 0, none⟩ 1 1 [.int .u32 (wv c)] rfl rfl (one_cellCh wr _ _) (one_oneCh _ rfl) (by decide) (by decide) (le_allocCh hsz _) ?_)
          intro v3 w3 h1 h2 h3
          have HB3 := below_appCh HB2.out _ _ _ _ _ HO2'.out h2
          have HO3 : w3.ownsRow w.heap.size 86 1 v3 13 (wvsCh (L2 ++ [c])) := by
            unfold wvsCh
            rw [List.map_append]
            exact h1
          generalize hL3 : L2 ++ [c] = L3 at HO3
          have HL3 := Lib.hid hL3
          clear hL3 h1 h2 h3 HB2 HO2' HOA hsz
          go_wp2_with fail
          go_loopw [7, 10] (fun v i wr => ∃ j : Nat, j ≤ 3 ∧ i = .int .i64 (4 * (j : Int)) ∧ wr.ownsRow w.heap.size 86 1 v (13 + j) (wvsCh (L3 ++ (List.range j).map (leW n))) ∧ Below w.heap.size w wr) (fun _ i _ => 12 - (intOf i).toNat)
          case atStart => exact ⟨0, by omega, rfl, by simpa using HO3, HB3⟩
          case round =>
            obtain ⟨j, hj, rfl, hown, hnx⟩ := hrel
            have HOWN := Lib.hid hown
            have HNX := Lib.hid hnx
            clear hown hnx HO3 HB3
            by_cases hjN : j < 3
            · go_wp2_with fail
              skip
              refine (word_any n j (by rw [HN.out]; omega) (by omega) wr).mono ?_
              rintro e w2 ⟨rfl, kk, rfl⟩
              have hown2 : ((wr.drewN kk).alloc (.cells #[.int .u32 (wv (leW n j))] 86 (0, 0))).ownsRow w.heap.size 86 1 u7 (13 + j) (wvsCh (L3 ++ (List.range j).map (leW n))) := HOWN.out.alloc _
              have HOWN2 := Lib.hid hown2
              have hsz := HNX.out.size
              clear hown2
              go_wp2_with (at_builtin; refine wpList_append_own _ rfl (.tmp 44) (.tmp 48) 136 rfl w.heap.size 86 i0 (.int .u32 0) 1 4 Tryz.underlying136 hi hz0 hz1 hz2 rfl (by decide) _ _ _ rfl HOWN2.out ⟨wr.heap.size, 0, none⟩ 1 1 [.int .u32 (wv (leW n j))] rfl rfl ?c1 ?c2 ?c3 ?c4 ?c5 ?_)
              try case c1 => exact one_cellCh (wr.drewN kk) _ _
              try case c2 => first | rfl | (intro u hu; rw [List.mem_singleton.1 hu]; rfl)
              try case c3 => unfold maxLen; omega
              try case c4 => omega
              try case c5 => rw [World.size_alloc]; exact Nat.le_succ_of_le hsz
              intro v' w' h1 h2 h3
              go_wp2_with fail
              go_roundw
              case rel =>
                refine ⟨j + 1, by omega, by simp; omega, ?_, ?_⟩
                · rw [List.range_succ, List.map_append, ← List.append_assoc]
                  unfold wvsCh
                  rw [List.map_append]
                  exact h1
                · exact below_appCh (wr := wr.drewN kk) ⟨HNX.out.os, HNX.out.tape, HNX.out.output, HNX.out.size, HNX.out.block⟩ _ _ _ _ _ HOWN.out h2
              case measure => simp [intOf]; omega
            · have hj3 : j = 3 := by omega
              have HO4 := HOWN.out
              have HB4 := Lib.hid HNX.out
              have hsz := HNX.out.size
              rw [hj3] at HO4
              have HS4 : L3 ++ (List.range 3).map (leW n) = (iw k n c).toList := by
                rw [← HL3.out, ← HL2.out, ← HL1.out]
                exact iw_words k n c
              rw [HS4] at HO4
              have hge : ¬ (4 * (j : Int) < 12) := by omega
              generalize 4 * (j : Int) = J12 at *
              have hSz := size_iw k n c
              generalize hI : iw k n c = S at HO4 hSz
              have HIW := Lib.hid hI
              have HS := Lib.hid hSz
              obtain ⟨gv, cap, rfl, hgv1, hgv2⟩ := HO4.form (by decide)
              have HO5 := Lib.hid HO4
              clear HO4 hj3 hjN HOWN HNX hI hSz HS4 HL1 HL2 HL3
              have hmk := fun w' h1 h2 => rst_start (w' := w') HS.out HB4.out HO5.out h1 h2
              have HMK := Lib.hid hmk
              have HM1 := Lib.hid (show i0.bytes * 16 ≤ 281474976710656 by rw [hz2]; decide)
              clear hmk
              go_wp2_with (with_reducible refine wpList_make_full _ rfl (.const (.int .i64 16)) (.const (.int .i64 16)) 136 rfl w.heap.size 86 i0 (.int .u32 0) 1 Tryz.underlying136 hi hz0 hz1 .i64 .i64 16 16 16 rfl rfl rfl rfl HM1.out (by decide) hsz ?_)
              intro w5 h1 h2
              obtain ⟨cur, st⟩ := HMK.out w5 h2 h1
              clear HMK HO5 HB4 h1 h2 hsz
              generalize wr.heap.size = g at st ⊢
              go_wp2_with fail
              go_loopw [12] (fun i wr => ∃ j : Nat, j ≤ 16 ∧ i = .int .i64 j ∧ RStCh w.heap.size gv g w S (cp S j) cur wr) (fun i _ => 16 - (intOf i).toNat)
              case atStart => exact ⟨0, by omega, rfl, st⟩
              case round =>
                obtain ⟨j, hj, rfl, st0⟩ := hrel
                clear st
                by_cases hjN : j < 16
                · have jn : (0 : Int) ≤ j := by omega
                  have ji : (j : Int) < 16 := by omega
                  have c1 := st0.word j hjN
                  have c2 := st0.turned (size_cp S j) j hjN
                  have f2 := frozen_of_row _ g j _ _ st0.rg
                  generalize hsj : S.getD j 0 = sj at c1
                  have HSJ := Lib.hid hsj
                  clear hsj
                  go_wp2_with fail
                  have st1 := st0.set j sj
                  generalize World.setCell _ _ _ = wn at st1 ⊢
                  clear c1 c2 f2 st0
                  go_wp2_with fail
                  go_roundw
                  case rel => exact ⟨j + 1, by omega, by go_num, by rw [cp, HSJ.out]; exact st1⟩
                  case measure => simp [intOf]; omega
                · have st5 : RStCh w.heap.size gv g w S (drs 0 S) cur wr := by
                    have hj16 : j = 16 := by omega
                    have := st0
                    rw [hj16, cp_all S HS.out] at this
                    exact this
                  have hge : ¬ ((j : Int) < 16) := by omega
                  clear st0 hjN
                  go_wp2_with fail
                  go_loopw [13] (fun i wr => ∃ r : Nat, r ≤ 10 ∧ i = .int .i64 r ∧ RStCh w.heap.size gv g w S (drs r S) cur wr) (fun i _ => 10 - (intOf i).toNat)
                  case atStart => exact ⟨0, by omega, rfl, st5⟩
                  case round =>
                    obtain ⟨r, hr, rfl, st0⟩ := hrel
                    have ht := (size_drs r S).trans HS.out
                    generalize hT : drs r S = t0 at st0 ht
                    have HT := Lib.hid hT
                    have HS0 := Lib.hid ht
                    clear hT ht st5
                    by_cases hrN : r < 10
                    · have ri : (r : Int) < 10 := Int.ofNat_lt.2 hrN
                      go_wp2_with fail
                      refine (rq16 g 16 86 0 4 8 12 t0 _ HS0.out (by decide) st0.rg).mono ?_
                      rintro e w10 ⟨rfl, hg, hr⟩
                      have st1 := st0.step hg hr
                      have HS1 := Lib.hid ((size_qr t0 0 4 8 12).trans HS0.out)
                      clear hg hr st0
                      generalize hq0 : qr t0 0 4 8 12 = t1 at st1 HS1
                      have HQ0 := Lib.hid hq0
                      clear hq0
                      go_wp2_with fail
                      refine (rq16 g 16 86 1 5 9 13 t1 _ HS1.out (by decide) st1.rg).mono ?_
                      rintro e w11 ⟨rfl, hg, hr⟩
                      have st2 := st1.step hg hr
                      have HS2 := Lib.hid ((size_qr t1 1 5 9 13).trans HS1.out)
                      clear hg hr st1
                      generalize hq1 : qr t1 1 5 9 13 = t2 at st2 HS2
                      have HQ1 := Lib.hid hq1
                      clear hq1
                      go_wp2_with fail
                      refine (rq16 g 16 86 2 6 10 14 t2 _ HS2.out (by decide) st2.rg).mono ?_
                      rintro e w12 ⟨rfl, hg, hr⟩
                      have st3 := st2.step hg hr
                      have HS3 := Lib.hid ((size_qr t2 2 6 10 14).trans HS2.out)
                      clear hg hr st2
                      generalize hq2 : qr t2 2 6 10 14 = t3 at st3 HS3
                      have HQ2 := Lib.hid hq2
                      clear hq2
                      go_wp2_with fail
                      refine (rq16 g 16 86 3 7 11 15 t3 _ HS3.out (by decide) st3.rg).mono ?_
                      rintro e w13 ⟨rfl, hg, hr⟩
                      have st4 := st3.step hg hr
                      have HS4 := Lib.hid ((size_qr t3 3 7 11 15).trans HS3.out)
                      clear hg hr st3
                      generalize hq3 : qr t3 3 7 11 15 = t4 at st4 HS4
                      have HQ3 := Lib.hid hq3
                      clear hq3
                      go_wp2_with fail
                      refine (rq16 g 16 86 0 5 10 15 t4 _ HS4.out (by decide) st4.rg).mono ?_
                      rintro e w14 ⟨rfl, hg, hr⟩
                      have st5 := st4.step hg hr
                      have HS5 := Lib.hid ((size_qr t4 0 5 10 15).trans HS4.out)
                      clear hg hr st4
                      generalize hq4 : qr t4 0 5 10 15 = t5 at st5 HS5
                      have HQ4 := Lib.hid hq4
                      clear hq4
                      go_wp2_with fail
                      refine (rq16 g 16 86 1 6 11 12 t5 _ HS5.out (by decide) st5.rg).mono ?_
                      rintro e w15 ⟨rfl, hg, hr⟩
                      have st6 := st5.step hg hr
                      have HS6 := Lib.hid ((size_qr t5 1 6 11 12).trans HS5.out)
                      clear hg hr st5
                      generalize hq5 : qr t5 1 6 11 12 = t6 at st6 HS6
                      have HQ5 := Lib.hid hq5
                      clear hq5
                      go_wp2_with fail
                      refine (rq16 g 16 86 2 7 8 13 t6 _ HS6.out (by decide) st6.rg).mono ?_
                      rintro e w16 ⟨rfl, hg, hr⟩
                      have st7 := st6.step hg hr
                      have HS7 := Lib.hid ((size_qr t6 2 7 8 13).trans HS6.out)
                      clear hg hr st6
                      generalize hq6 : qr t6 2 7 8 13 = t7 at st7 HS7
                      have HQ6 := Lib.hid hq6
                      clear hq6
                      go_wp2_with fail
                      refine (rq16 g 16 86 3 4 9 14 t7 _ HS7.out (by decide) st7.rg).mono ?_
                      rintro e w17 ⟨rfl, hg, hr⟩
                      have st8 := st7.step hg hr
                      have HS8 := Lib.hid ((size_qr t7 3 4 9 14).trans HS7.out)
                      clear hg hr st7
                      generalize hq7 : qr t7 3 4 9 14 = t8 at st8 HS8
                      have HQ7 := Lib.hid hq7
                      clear hq7
                      go_wp2_with fail
                      go_roundw
                      case rel =>
                        refine ⟨r + 1, by omega, by go_num, ?_⟩
                        rw [drs, HT.out, dr, HQ0.out, HQ1.out, HQ2.out, HQ3.out, HQ4.out, HQ5.out, HQ6.out, HQ7.out]
                        exact st8
                      case measure => simp [intOf]; omega
                    · have hr10 : r = 10 := by omega
                      have HT10 := Lib.hid (show drs 10 S = t0 by rw [← hr10]; exact HT.out)
                      have hge : ¬ ((r : Int) < 10) := by omega
                      clear HT hrN hr10
                      have HST := Lib.hid st0
                      clear st0
                      go_wp2_with fail
                      go_loopw [14, 15] (fun v i wr' => ∃ j : Nat, j ≤ 16 ∧ i = .int .i64 j ∧ wr'.ownsRow wr.heap.size 5 1 v (4 * j) (blv (zz t0 S) j) ∧ Below wr.heap.size wr wr') (fun _ i _ => 16 - (intOf i).toNat)
                      case atStart => exact ⟨0, by omega, rfl, ⟨rfl, .inl ⟨rfl, rfl⟩⟩, Below.refl _ _⟩
                      case round =>
                        obtain ⟨j, hj, rfl, hown, hbb⟩ := hrel
                        have HOWN := Lib.hid hown
                        have HBB := Lib.hid hbb
                        have st := HST.out.carry HST.out.bel.size (Array.getElem?_eq_some_iff.1 HST.out.rv).1 (Array.getElem?_eq_some_iff.1 HST.out.rg).1 hbb
                        clear hown hbb
                        by_cases hjN : j < 16
                        · have jn : (0 : Int) ≤ j := Int.natCast_nonneg j
                          have ji : (j : Int) < 16 := Int.ofNat_lt.2 hjN
                          have c1 := st.word j hjN
                          have c2 := st.turned HS0.out j hjN
                          clear st
                          generalize hsj : S.getD j 0 = sj at c1
                          generalize htj : t0.getD j 0 = tj at c2
                          have HZ := Lib.hid (show zz t0 S j = tj + sj by rw [← hsj, ← htj]; rfl)
                          clear hsj htj
                          go_wp2_with fail
                          go_quiet (fail)
                          have hx : (wv tj + wv sj) % 4294967296 = wv (tj + sj) := w_add tj sj
                          rw [hx]
                          generalize hxx : tj + sj = x at HZ
                          have hsq := HBB.out.size
                          have HBQ := Lib.hid (show Below _ _ (wr.drewN nq) from ⟨HBB.out.os, HBB.out.tape, HBB.out.output, HBB.out.size, HBB.out.block⟩)
                          have HOQ := Lib.hid (show (wr.drewN nq).ownsRow _ _ _ _ _ _ from HOWN.out)
                          have hs0 : _ ≤ (wr.drewN nq).heap.size := hsq
                          generalize wr.drewN nq = wq at HBQ HOQ hs0 ⊢
                          clear hx hxx hsq c1 c2
                          have HA0 := Lib.hid (HOQ.out.alloc (.cells #[ob x 0] 5 (0, 0)))
                          have HM0 := Lib.hid (show 4 * j + 1 ≤ maxLen by unfold maxLen; omega)
                          have HN0 := Lib.hid (show (4 * j + 1) * 1 ≤ 140737488355328 by omega)
                          go_wp2_with (at_builtin; refine wpList_append_own _ rfl (.tmp 95) (.tmp 98) 83 rfl _ 5 i8 (.int .u8 0) 1 1 Tryz.underlying83 hj0 hy0 hy1 hy2 rfl (by decide) _ _ _ rfl HA0.out ⟨wq.heap.size, 0, none⟩ 1 1 [ob x 0] rfl rfl (one_cellCh wq _ _) (one_oneCh _ rfl) HM0.out HN0.out (le_allocCh hs0 _) ?_)
                          intro v1a w1a h1 h2 h3
                          have HB1a := Lib.hid (below_appCh HBQ.out _ _ _ _ _ HOQ.out h2)
                          have HO1a := Lib.hid h1
                          have hs1 := HB1a.out.size
                          clear h1 h2 h3 hs0
                          have HA1 := Lib.hid (HO1a.out.alloc (.cells #[ob x 1] 5 (0, 0)))
                          have HM1 := Lib.hid (show 4 * j + 1 + 1 ≤ maxLen by unfold maxLen; omega)
                          have HN1 := Lib.hid (show (4 * j + 1 + 1) * 1 ≤ 140737488355328 by omega)
                          go_wp2_with (at_builtin; refine wpList_append_own _ rfl (.tmp 99) (.tmp 103) 83 rfl _ 5 i8 (.int .u8 0) 1 1 Tryz.underlying83 hj0 hy0 hy1 hy2 rfl (by decide) _ _ _ rfl HA1.out ⟨w1a.heap.size, 0, none⟩ 1 1 [ob x 1] rfl rfl (one_cellCh w1a _ _) (one_oneCh _ rfl) HM1.out HN1.out (le_allocCh hs1 _) ?_)
                          intro v2a w2a h1 h2 h3
                          have HB2a := Lib.hid (below_appCh HB1a.out _ _ _ _ _ HO1a.out h2)
                          have HO2a := Lib.hid h1
                          have hs2 := HB2a.out.size
                          clear h1 h2 h3 hs1
                          have HA2 := Lib.hid (HO2a.out.alloc (.cells #[ob x 2] 5 (0, 0)))
                          have HM2 := Lib.hid (show 4 * j + 1 + 1 + 1 ≤ maxLen by unfold maxLen; omega)
                          have HN2 := Lib.hid (show (4 * j + 1 + 1 + 1) * 1 ≤ 140737488355328 by omega)
                          go_wp2_with (at_builtin; refine wpList_append_own _ rfl (.tmp 104) (.tmp 108) 83 rfl _ 5 i8 (.int .u8 0) 1 1 Tryz.underlying83 hj0 hy0 hy1 hy2 rfl (by decide) _ _ _ rfl HA2.out ⟨w2a.heap.size, 0, none⟩ 1 1 [ob x 2] rfl rfl (one_cellCh w2a _ _) (one_oneCh _ rfl) HM2.out HN2.out (le_allocCh hs2 _) ?_)
                          intro v3a w3a h1 h2 h3
                          have HB3a := Lib.hid (below_appCh HB2a.out _ _ _ _ _ HO2a.out h2)
                          have HO3a := Lib.hid h1
                          have hs3 := HB3a.out.size
                          clear h1 h2 h3 hs2
                          have HA3 := Lib.hid (HO3a.out.alloc (.cells #[ob x 3] 5 (0, 0)))
                          have HM3 := Lib.hid (show 4 * j + 1 + 1 + 1 + 1 ≤ maxLen by unfold maxLen; omega)
                          have HN3 := Lib.hid (show (4 * j + 1 + 1 + 1 + 1) * 1 ≤ 140737488355328 by omega)
                          go_wp2_with (at_builtin; refine wpList_append_own _ rfl (.tmp 109) (.tmp 113) 83 rfl _ 5 i8 (.int .u8 0) 1 1 Tryz.underlying83 hj0 hy0 hy1 hy2 rfl (by decide) _ _ _ rfl HA3.out ⟨w3a.heap.size, 0, none⟩ 1 1 [ob x 3] rfl rfl (one_cellCh w3a _ _) (one_oneCh _ rfl) HM3.out HN3.out (le_allocCh hs3 _) ?_)
                          intro v4a w4a h1 h2 h3
                          have HB4a := Lib.hid (below_appCh HB3a.out _ _ _ _ _ HO3a.out h2)
                          have HO4a := Lib.hid h1
                          have hs4 := HB4a.out.size
                          clear h1 h2 h3 hs3
                          go_wp2_with fail
                          go_roundw
                          case rel =>
                            refine ⟨j + 1, by omega, by go_num, ?_, HB4a.out⟩
                            have := HO4a.out
                            rw [blv, HZ.out, show 4 * (j + 1) = 4 * j + 1 + 1 + 1 + 1 by omega]
                            simpa only [List.append_assoc, List.cons_append, List.nil_append] using this
                          case measure => simp [intOf]; omega
                        · have ji : ¬ ((j : Int) < 16) := by omega
                          have hj16 : j = 16 := by omega
                          have HO6 := HOWN.out
                          rw [hj16, blv_bl] at HO6
                          obtain ⟨go, capo, rfl, _, _⟩ := HO6.form (by decide)
                          have hcv := conv_outCh (bl (zz t0 S) 16) (4 * 16) (length_bl _ _) HO6
                          have hbl : bs (bl (zz t0 S) 16) = blkB (iw k n c) := by
                            rw [HIW.out, ← HT10.out]
                            exact bs_bl S
                          rw [hbl] at hcv
                          have HF := Lib.hid (HST.out.bel.trans (HBB.out.mono HST.out.bel.size))
                          clear HO6 hj16 hjN HOWN HBB st hbl
                          go_wp2_with fail
                          go_ret
                          exact ⟨rfl, HF.out⟩
end Go.Proofs.YtfckjilhkdlpfaaGreatDoor

namespace Go.Proofs.YtfckjilhkdlpfaaGreatDoor
open Go.RowKit MS
/-- Byte i of the stream that begins with block c. -/
def ks (k n : ByteArray) (c : W32) (i : Nat) : UInt8 := (ls (blkB (iw k n (c + BitVec.ofNat 32 (i / 64))))).getD (i % 64) 0
/-- The first p bytes are turned. -/
def mixlCh (l : List UInt8) (f : Nat → UInt8) (p : Nat) : List UInt8 := (List.range l.length).map fun i => if i < p then l.getD i 0 ^^^ f i else l.getD i 0
def trn (l : List UInt8) (f : Nat → UInt8) : List UInt8 := (List.range l.length).map fun i => l.getD i 0 ^^^ f i
theorem length_mixlCh (l : List UInt8) (f : Nat → UInt8) (p : Nat) : (mixlCh l f p).length = l.length := by simp [mixlCh]
theorem length_trn (l : List UInt8) (f : Nat → UInt8) : (trn l f).length = l.length := by simp [trn]
theorem mixl_zeroCh (l : List UInt8) (f : Nat → UInt8) : mixlCh l f 0 = l := by
  apply List.ext_getElem?
  intro i
  by_cases h : i < l.length
  · simp [mixlCh, h]
  · simp [mixlCh, h]
theorem mixl_all (l : List UInt8) (f : Nat → UInt8) (p : Nat) (hp : l.length ≤ p) : mixlCh l f p = trn l f := by
  unfold mixlCh trn
  apply List.map_congr_left
  intro i hi
  rw [if_pos (Nat.lt_of_lt_of_le (List.mem_range.1 hi) hp)]
theorem mixl_getCh (l : List UInt8) (f : Nat → UInt8) (p i : Nat) (h : i < l.length) : (mixlCh l f p)[i]? = some (if i < p then l.getD i 0 ^^^ f i else l.getD i 0) := by
  simp [mixlCh, h]
theorem mixl_stepCh (l : List UInt8) (f : Nat → UInt8) (p : Nat) (hp : p < l.length) : (mixlCh l f p).set p (l.getD p 0 ^^^ f p) = mixlCh l f (p + 1) := by
  apply List.ext_getElem?
  intro i
  rw [List.getElem?_set, length_mixlCh]
  by_cases h : i < l.length
  · rw [mixl_getCh _ _ _ _ h, mixl_getCh _ _ _ _ h]
    by_cases e : p = i
    · subst e
      rw [if_pos rfl, if_pos hp, if_pos (Nat.lt_succ_self p)]
    · rw [if_neg e]
      congr 1
      by_cases h2 : i < p
      · rw [if_pos h2, if_pos (by omega)]
      · rw [if_neg h2, if_neg (by omega)]
  · rw [if_neg (by omega), List.getElem?_eq_none (by rw [length_mixlCh]; omega), List.getElem?_eq_none (by rw [length_mixlCh]; omega)]

theorem iw_list (k n : ByteArray) : ∃ A B : List W32, A.length = 12 ∧ ∀ c, (iw k n c).toList = A ++ c :: B := by
  refine ⟨(List.range 4).map (leW cst) ++ (List.range 8).map (leW k), (List.range 3).map (leW n), by simp, fun c => ?_⟩
  rw [← iw_words]
  simp only [List.append_assoc, List.cons_append, List.nil_append]
theorem iw_set (k n : ByteArray) (c c' : W32) : (iw k n c).setIfInBounds 12 c' = iw k n c' := by
  obtain ⟨A, B, hA, h⟩ := iw_list k n
  apply Array.toList_inj.1
  rw [Array.toList_setIfInBounds, h, h, ← hA]
  simp
theorem iw_cell (k n : ByteArray) (c : W32) : (rowWCh (iw k n c))[12]? = some (.int .u32 (wv c)) := by
  obtain ⟨A, B, hA, h⟩ := iw_list k n
  rw [rowWCh, Array.getElem?_map, ← Array.getElem?_toList, h, ← hA]
  simp
theorem b_xor (x y : UInt8) : bits .xor .u8 (x.toNat : Int) (y.toNat : Int) = ((x ^^^ y).toNat : Int) := by
  rw [u8_xor_nat _ _ x.toNat_lt y.toNat_lt, UInt8.toNat_xor]

/-- The bytes' row. -/
def orw (l : List UInt8) (cap : Nat) : Array Value := (l.map valBCh).toArray ++ Array.replicate (cap - l.length) (.int .u8 0)
theorem orw_get (l : List UInt8) (cap i : Nat) (h : i < l.length) : (orw l cap)[i]? = some (valBCh (l.getD i 0)) := by
  simp [orw, Array.getElem?_append, h]
theorem orw_set (l : List UInt8) (cap i : Nat) (x : UInt8) (h : i < l.length) : (orw l cap).setIfInBounds i (valBCh x) = orw (l.set i x) cap := by
  apply Array.toList_inj.1
  simp [orw, h, List.map_set]

structure TStCh (B O cap fz : Nat) (w0 : World) (I : Array W32) (l : List UInt8) (w : World) : Prop where
  ne : B ≠ O
  geB : w0.heap.size ≤ B
  geO : w0.heap.size ≤ O
  rs : w.heap[B]? = some (.cells (rowWCh I) 123 (0, 0))
  ro : w.heap[O]? = some (.cells (orw l cap) 5 (fz, fz + 1))
  fzl : l.length ≤ fz
  bel : Below w0.heap.size w0 w
theorem TStCh.carry {B O cap fz : Nat} {w0 w w' : World} {I : Array W32} {l : List UInt8} (h : TStCh B O cap fz w0 I l w) (hb : Below w.heap.size w w') : TStCh B O cap fz w0 I l w' :=
  ⟨h.ne, h.geB, h.geO, (hb.block B (Array.getElem?_eq_some_iff.1 h.rs).1).trans h.rs, (hb.block O (Array.getElem?_eq_some_iff.1 h.ro).1).trans h.ro, h.fzl, h.bel.trans (hb.mono h.bel.size)⟩
theorem TStCh.put {B O cap fz : Nat} {w0 w : World} {I : Array W32} {l : List UInt8} (h : TStCh B O cap fz w0 I l w) (i : Nat) (hi : i < l.length) (x : UInt8) : TStCh B O cap fz w0 I (l.set i x) (w.setCell ⟨O, i, none⟩ (valBCh x)) := by
  refine ⟨h.ne, h.geB, h.geO, ?_, ?_, by simpa using h.fzl, h.bel.setCell h.geO _⟩
  · rw [heap_setCell_other _ _ _ _ (by simpa using h.ne)]; exact h.rs
  · rw [setCell_eq_setRow w O i (orw l cap) _ _ _ h.ro, setRow_heap w O _ _ _ _ h.ro, orw_set _ _ _ _ hi]
theorem TStCh.count {B O cap fz : Nat} {w0 w : World} {I : Array W32} {l : List UInt8} (h : TStCh B O cap fz w0 I l w) (x : W32) : TStCh B O cap fz w0 (I.setIfInBounds 12 x) l (w.setCell ⟨B, 12, none⟩ (.int .u32 (wv x))) := by
  refine ⟨h.ne, h.geB, h.geO, ?_, ?_, h.fzl, h.bel.setCell h.geB _⟩
  · rw [heap_setCell_same w B 12 (rowWCh I) _ _ h.rs, rowW_setCh]
  · rw [heap_setCell_other _ _ _ _ (by simpa using Ne.symm h.ne)]; exact h.ro
theorem TStCh.byte {B O cap fz : Nat} {w0 w : World} {I : Array W32} {l : List UInt8} (h : TStCh B O cap fz w0 I l w) (i : Nat) (hi : i < l.length) : w.cell? ⟨O, i, none⟩ = some (.int .u8 ((l.getD i 0).toNat : Int)) := by
  rw [cell_of_row w O i _ _ _ h.ro, orw_get _ _ _ hi]
  rfl
theorem TStCh.free {B O cap fz : Nat} {w0 w : World} {I : Array W32} {l : List UInt8} (h : TStCh B O cap fz w0 I l w) (i : Nat) (hi : i < l.length) : w.frozen? ⟨O, i, none⟩ = false := by
  have := h.fzl
  simp [World.frozen?, h.ro]
  omega

theorem w_succ (x : W32) : (wv x + 1) % 4294967296 = wv (x + 1) := w_add x 1
def sliceLenCh : Value → Nat
  | .slice _ n _ => n
  | _ => 0
theorem bytesRow_orw (s : ByteArray) (cap : Nat) : bytesRow s cap = orw (ls s) cap := by
  apply Array.toList_inj.1
  simp [bytesRow, orw, ls, valBCh]
theorem size_orw (l : List UInt8) (cap : Nat) : l.length ≤ (orw l cap).size := by simp [orw]
theorem tst_start {w w1 : World} (hb : Below w.heap.size w w1) (I : Array W32) (s : ByteArray) (cap : Nat) :
    TStCh w1.heap.size (w1.heap.size + 1) cap (bytesRow s cap).size w I (ls s) (((w1.alloc (.cells #[.int .u32 0, .int .u32 0, .int .u32 0, .int .u32 0, .int .u32 0, .int .u32 0, .int .u32 0, .int .u32 0, .int .u32 0, .int .u32 0, .int .u32 0, .int .u32 0, .int .u32 0, .int .u32 0, .int .u32 0, .int .u32 0] 123 (0, 0))).setRow w1.heap.size (rowWCh I)).alloc (.cells (bytesRow s cap) 5 ((bytesRow s cap).size, (bytesRow s cap).size + 1))).drew := by
  have hz : (#[.int .u32 0, .int .u32 0, .int .u32 0, .int .u32 0, .int .u32 0, .int .u32 0, .int .u32 0, .int .u32 0, .int .u32 0, .int .u32 0, .int .u32 0, .int .u32 0, .int .u32 0, .int .u32 0, .int .u32 0, .int .u32 0] : Array Value) = Array.replicate 16 (.int .u32 0) := rfl
  rw [hz, bytesRow_orw]
  have hfz := size_orw (ls s) cap
  generalize (orw (ls s) cap).size = fz at *
  have h0 := (MapKept.heap_alloc w1 (.cells (Array.replicate 16 (.int .u32 0)) 123 (0, 0))).1
  have h1 := setRow_heap _ _ _ (rowWCh I) _ _ h0
  have hs : ((w1.alloc (.cells (Array.replicate 16 (.int .u32 0)) 123 (0, 0))).setRow w1.heap.size (rowWCh I)).heap.size = w1.heap.size + 1 := by simp
  have b1 := below_setRowCh (below_alloc hb (.cells (Array.replicate 16 (.int .u32 0)) 123 (0, 0))) (g := w1.heap.size) hb.size (rowWCh I)
  generalize ((w1.alloc (.cells (Array.replicate 16 (.int .u32 0)) 123 (0, 0))).setRow w1.heap.size (rowWCh I)) = w2 at *
  have h2 := (MapKept.heap_alloc w2 (.cells (orw (ls s) cap) 5 (fz, fz + 1))).1
  have h3 := ((MapKept.heap_alloc w2 (.cells (orw (ls s) cap) 5 (fz, fz + 1))).2 w1.heap.size (by omega)).trans h1
  rw [hs] at h2
  have hz1 := hb.size
  exact ⟨by omega, hz1, by omega, h3, h2, hfz, (below_alloc b1 _).drew⟩
theorem tst_block {B O cap fz : Nat} {w0 w w2 : World} {I : Array W32} {l : List UInt8} (h : TStCh B O cap fz w0 I l w) (hb : Below w.heap.size w w2) (X : Obj) (cs : Array Value) :
    TStCh B O cap fz w0 I l ((w2.alloc X).setRow w2.heap.size cs) :=
  h.carry (below_setRowCh (below_alloc hb X) hb.size cs)
theorem TStCh.drewN {B O cap fz : Nat} {w0 w : World} {I : Array W32} {l : List UInt8} (h : TStCh B O cap fz w0 I l w) (k : Nat) : TStCh B O cap fz w0 I l (w.drewN k) :=
  ⟨h.ne, h.geB, h.geO, h.rs, h.ro, h.fzl, ⟨h.bel.os, h.bel.tape, h.bel.output, h.bel.size, h.bel.block⟩⟩
theorem turned_conv {B O cap fz : Nat} {w0 w : World} {I : Array W32} {l : List UInt8} (h : TStCh B O cap fz w0 I l w) (n : Nat) (hn : l.length = n) :
    (convert 83 9 (.slice (some ⟨O, 0, none⟩) n cap)).run Tryz.prog w = .ok (.string (bs l)) w := by
  refine run_bytes_to_string w 83 9 5 Tryz.underlying83 Tryz.underlying5 Tryz.underlying9 O 0 n cap l hn (fun j hj => ?_)
  rw [Nat.zero_add, h.byte j hj]
  simp [hj]
theorem blk_get (S : Array W32) (j : Nat) (hj : j < 64) : (blk S)[j]? = some (.int .u8 (((ls (blkB S)).getD j 0).toNat : Int)) := by
  have hl : (ls (blkB S)).length = 64 := by
    have := size_orow (zz (drs 10 S) S) 16
    rw [show orow (zz (drs 10 S) S) 16 = blk S from rfl, blk_blkB] at this
    simpa using this
  rw [blk_blkB]
  simp [valBCh, hl, hj]
theorem ks_at (k n : ByteArray) (c : W32) (m j : Nat) (hj : j < 64) : ks k n c (64 * m + j) = (ls (blkB (iw k n (c + BitVec.ofNat 32 m)))).getD j 0 := by
  unfold ks
  rw [show (64 * m + j) / 64 = m by omega, show (64 * m + j) % 64 = j by omega]
theorem count_up (c : W32) (m : Nat) : c + BitVec.ofNat 32 m + 1 = c + BitVec.ofNat 32 (m + 1) := by
  rw [BitVec.add_assoc]
  congr 1
  apply BitVec.eq_of_toNat_eq
  simp [BitVec.toNat_add]
theorem mixl_getDCh (l : List UInt8) (f : Nat → UInt8) (p : Nat) (h : p < l.length) : (mixlCh l f p).getD p 0 = l.getD p 0 := by
  rw [List.getD_eq_getElem?_getD, mixl_getCh _ _ _ _ h, if_neg (Nat.lt_irrefl p)]
  rfl
end Go.Proofs.YtfckjilhkdlpfaaGreatDoor

namespace Go.Proofs.YtfckjilhkdlpfaaGreatDoor
open Go.RowKit MS
attribute [local go_sem] w_succ b_xor
set_option maxRecDepth 100000 in
set_option maxHeartbeats 1000000 in
theorem turn_yes (k n : ByteArray) (c : W32) (s : ByteArray) (w : World) (hk : k.size = 32) (hn : n.size = 12) :
    Calls Tryz.prog 63 #[.string k, .string n, .int .u32 (wv c), .string s] w fun e w' => e = .returned (.tuple #[.string (bs (trn (ls s) (ks k n c))), .bool true]) ∧ Below w.heap.size w w' := by
  have H1 := Lib.hid (begin_yes k n c w hk hn)
  have hz := fun c => size_iw k n c
  have HZ := Lib.hid hz
  have HI := Lib.hid (fun c => show (Tryz.prog.info? 123).map (·.size) = some (rowWCh (iw k n c)).size by rw [size_rowWCh, hz]; kernel_rfl)
  have HO := Lib.hid (fun c => show (rowWCh (iw k n c)).all (·.oneCell') = true by simp [rowWCh, Value.oneCell'])
  have HL := Lib.hid (fun c => show (Array.replicate 16 (Value.int .u32 0)).size = (rowWCh (iw k n c)).size by rw [size_rowWCh, hz]; rfl)
  clear hk hn hz
  go_enter Tryz.func63, Tryz.ntmps63
  go_wp2_with fail
  refine H1.out.mono ?_
  rintro e w1 ⟨rfl, hb1⟩
  have HR := Lib.hid ((MapKept.heap_alloc w1 (.cells (Array.replicate 16 (.int .u32 0)) 123 (0, 0))).1)
  have HR' := Lib.hid (setRow_heap _ _ _ (rowWCh (iw k n c)) _ _ HR.out)
  have HB1 := Lib.hid hb1
  clear hb1
  have hcv := fun w => run_bytes_of_string (P := Tryz.prog) w 9 83 5 s Tryz.underlying9 Tryz.underlying83 Tryz.underlying5
  go_wp2_with (with_reducible refine wpList_store_row rfl 123 (.tmp 10) (.tmp 22) rfl w1.heap.size (rowWCh (iw k n c)) rfl rfl 123 (Array.replicate 16 (.int .u32 0)) ?hg (HI.out c) (HL.out c) (HO.out c) ?_)
  case hg => exact HR.out
  generalize hcap : grownCap _ s.size 0 5 = cap
  have hcp : s.size ≤ cap := by rw [← hcap]; exact grownCap_ge _ _ _ _
  have st := tst_start HB1.out (iw k n c) s cap
  generalize World.drew _ = w3 at st ⊢
  generalize (bytesRow s cap).size = fz at st
  generalize w1.heap.size + 1 = O at st ⊢
  generalize w1.heap.size = B at st ⊢
  have HC := Lib.hid hcp
  clear hcv hcap HR HR' HB1 H1
  have hls : (ls s).length = s.size := rfl
  have HLS := Lib.hid hls
  go_loopw [13] (fun r wr => ∃ m p q cq off : Nat, p + q = s.size ∧ p + cq = cap ∧ (0 < q → p = 64 * m ∧ off = p) ∧ r = .slice (some ⟨O, off, none⟩) q cq ∧ TStCh B O cap fz w (iw k n (c + BitVec.ofNat 32 m)) (mixlCh (ls s) (ks k n c) p) wr) (fun r _ => sliceLenCh r)
  case atStart => exact ⟨0, 0, s.size, cap, 0, by omega, by omega, fun _ => ⟨rfl, rfl⟩, rfl, by rw [mixl_zeroCh, show c + BitVec.ofNat 32 0 = c from BitVec.add_zero c]; exact st⟩
  case round =>
    obtain ⟨m, p, q, cq, off, hpq, hpc, hoff, rfl, st0⟩ := hrel
    have HPQ := Lib.hid hpq
    have HPC := Lib.hid hpc
    have HST := Lib.hid st0
    clear st hls hcp
    by_cases hq : 0 < q
    · obtain ⟨hpm, hof⟩ := hoff hq
      subst hof
      have HPM := Lib.hid hpm
      clear hoff hpm st0 hpq hpc
      have hqi : (0 : Int) < q := Int.ofNat_lt.2 hq
      obtain ⟨sz, hs0, hs1, hs2, hs3⟩ : ∃ sz : Nat, sz ≤ 64 ∧ sz ≤ q ∧ 0 < sz ∧ (if (q : Int) < 64 then (q : Int) else 64) = (sz : Int) := by
        by_cases h : q < 64
        · exact ⟨q, by omega, by omega, by omega, by rw [if_pos (by omega)]⟩
        · exact ⟨64, by omega, by omega, by omega, by rw [if_neg (by omega)]; rfl⟩
      have hI := HI.out (c + BitVec.ofNat 32 m)
      have HII := Lib.hid hI
      have H2 := Lib.hid (fun w => finish_anyCh (iw k n (c + BitVec.ofNat 32 m)) w (HZ.out _))
      clear hI
      generalize hIm : iw k n (c + BitVec.ofNat 32 m) = I at HII H2 HST
      have HIM := Lib.hid hIm
      clear hIm
      go_wp2_with (with_reducible refine wpList_load_row rfl 123 (.tmp 10) rfl B rfl 123 (rowWCh I) (0, 0) _ HST.out.rs Tryz.underlying123 rfl HII.out ?_)
      refine (H2.out _).mono ?_
      rintro e w4 ⟨rfl, hb4⟩
      have hb64 : (blk I).size = 64 := size_orow _ _
      have HI5 := Lib.hid (show (Tryz.prog.info? 126).map (·.size) = some (blk I).size by rw [hb64]; kernel_rfl)
      have HO5 := Lib.hid (show (blk I).all (·.oneCell') = true from all_orow _ _)
      have HL5 := Lib.hid (show (Array.replicate 64 (Value.int .u8 0)).size = (blk I).size by rw [hb64]; rfl)
      have hS := (MapKept.heap_alloc w4 (.cells (Array.replicate 64 (.int .u8 0)) 126 (0, 0))).1
      have HS := Lib.hid hS
      have HS' := Lib.hid (setRow_heap _ _ _ (blk I) _ _ hS)
      have st4 := tst_block HST.out hb4 (.cells (Array.replicate 64 (.int .u8 0)) 126 (0, 0)) (blk I)
      have lO : O < w4.heap.size := Nat.lt_of_lt_of_le (Array.getElem?_eq_some_iff.1 HST.out.ro).1 hb4.size
      have lB : B < w4.heap.size := Nat.lt_of_lt_of_le (Array.getElem?_eq_some_iff.1 HST.out.rs).1 hb4.size
      clear hb4 hb64 hS
      have ST4 := Lib.hid st4
      clear st4
      go_wp2_with (with_reducible refine wpList_store_row rfl 126 (.tmp 15) (.tmp 36) rfl w4.heap.size (blk I) rfl rfl 126 (Array.replicate 64 (.int .u8 0)) ?hg3 HI5.out HL5.out HO5.out ?_)
      case hg3 => exact HS.out
      have st5 := ST4.out
      have hE := HS'.out
      generalize hW : World.setRow (World.alloc w4 _) _ _ = w5
      have hW' : World.setRow (World.alloc w4 (.cells (Array.replicate 64 (.int .u8 0)) 126 (0, 0))) w4.heap.size (blk I) = w5 := hW
      rw [hW'] at st5 hE
      have HS3 := Lib.hid (show sz = q ∨ sz = 64 by
        by_cases h : (q : Int) < 64
        · rw [if_pos h] at hs3; omega
        · rw [if_neg h] at hs3; omega)
      clear hs3 ST4 HS HS' HI5 HO5 HL5 H2 HST hW hW'
      generalize w4.heap.size = E at *
      go_loopw [38] (fun i wr => ∃ j : Nat, j ≤ sz ∧ i = .int .i64 j ∧ TStCh B O cap fz w I (mixlCh (ls s) (ks k n c) (off + j)) wr ∧ wr.heap[E]? = some (.cells (blk I) 126 (0, 0))) (fun i _ => sz - (intOf i).toNat)
      case atStart => exact ⟨0, by omega, rfl, st5, hE⟩
      case round =>
        obtain ⟨j, hj, rfl, st6, hE6⟩ := hrel
        clear st5 hE
        by_cases hjs : j < sz
        · have ji : (j : Int) < sz := Int.ofNat_lt.2 hjs
          have jq : (j : Int) < q := Int.ofNat_lt.2 (Nat.lt_of_lt_of_le hjs hs1)
          have j64n := Nat.lt_of_lt_of_le hjs hs0
          have j64 : (j : Int) < 64 := by omega
          have jn : (0 : Int) ≤ j := Int.natCast_nonneg j
          have hlt : off + j < (mixlCh (ls s) (ks k n c) (off + j)).length := by rw [length_mixlCh, HLS.out]; have := HPQ.out; have := Nat.lt_of_lt_of_le hjs hs1; omega
          have c1 := st6.byte (off + j) hlt
          have f1 := st6.free (off + j) hlt
          have c2 := cell_of_row wr E j _ _ _ hE6
          rw [blk_get I j j64n] at c2
          generalize hx1 : (mixlCh (ls s) (ks k n c) (off + j)).getD (off + j) 0 = x1 at c1
          generalize hx2 : (ls (blkB I)).getD j 0 = x2 at c2
          have HX1 := Lib.hid hx1
          have HX2 := Lib.hid hx2
          have HLT := Lib.hid hlt
          clear hx1 hx2 hlt
          go_wp2_with fail
          refine wp_region_draws_tail 9 (by kernel_rfl) (by kernel_rfl) ?_
          simp only [List.take_succ_cons, List.take_zero, List.drop_succ_cons, List.drop_zero]
          repeat (go_big_quiet_step (fail))
          refine wpQuiet_nil ?_
          intro _ hw'
          obtain ⟨kk, hw''⟩ := hw'
          subst hw''
          go_wp2_with fail
          have st7 := (st6.drewN kk).put (off + j) HLT.out (x1 ^^^ x2)
          have hE7 : (World.setCell (wr.drewN kk) ⟨O, off + j, none⟩ (valBCh (x1 ^^^ x2))).heap[E]? = some (.cells (blk I) 126 (0, 0)) := by
            rw [heap_setCell_other _ _ _ _ (by show ¬ E = O; omega)]
            exact hE6
          have hst : (mixlCh (ls s) (ks k n c) (off + j)).set (off + j) (x1 ^^^ x2) = mixlCh (ls s) (ks k n c) (off + (j + 1)) := by
            have hl2 : off + j < (ls s).length := by have := HLT.out; rwa [length_mixlCh] at this
            show _ = mixlCh (ls s) (ks k n c) (off + j + 1)
            rw [← mixl_stepCh _ _ _ hl2, ← HX1.out, mixl_getDCh _ _ _ hl2, ← HX2.out, ← HIM.out, HPM.out, ← ks_at k n c m j j64n]
          have hv : valBCh (x1 ^^^ x2) = Value.int .u8 ((x1.toNat ^^^ x2.toNat : Nat) : Int) := by simp [valBCh]
          rw [hst, hv] at st7
          rw [hv] at hE7
          go_roundw
          case rel => exact ⟨j + 1, by omega, by go_num, st7, hE7⟩
          case measure => simp [intOf]; omega
        · have ji : ¬ ((j : Int) < sz) := by omega
          have hjs' : j = sz := by omega
          rw [hjs'] at st6
          have sq : (sz : Int) ≤ q := by omega
          have sn : (0 : Int) ≤ sz := by omega
          have cb := cell_of_row wr B 12 _ _ _ st6.rs
          have fb := frozen_of_row wr B 12 _ _ st6.rs
          have hI12 : (rowWCh I)[12]? = some (.int .u32 (wv (c + BitVec.ofNat 32 m))) := by
            rw [← HIM.out]
            exact iw_cell _ _ _
          rw [hI12] at cb
          have HS6 := Lib.hid st6
          clear hjs' hjs st6 hE6 lO lB hI12
          go_wp2_with fail
          go_roundw
          case rel =>
            have hpq := HPQ.out
            have hpc := HPC.out
            have hcc := HC.out
            have st8 := HS6.out.count (c + BitVec.ofNat 32 m + 1)
            rw [← HIM.out, iw_set, count_up] at st8
            refine ⟨m + 1, off + sz, q - sz, cq - sz, if cq = sz then off else off + sz, by omega, by omega, fun h => ?_, by split <;> rfl, ?_⟩
            · have := HS3.out
              have := HPM.out
              exact ⟨by omega, by rw [if_neg (by omega)]⟩
            · rw [← count_up] at st8 ⊢
              exact st8
          case measure =>
            show q - sz < q
            omega
    · have hq0 : ¬ ((0 : Int) < q) := by omega
      have hq' : q = 0 := by omega
      have hp : p = s.size := by omega
      have htr : mixlCh (ls s) (ks k n c) p = trn (ls s) (ks k n c) := mixl_all _ _ _ (by rw [HLS.out, hp]; exact Nat.le_refl _)
      rw [htr] at st0
      have hcv := turned_conv st0 s.size (by rw [length_trn, HLS.out])
      have HF := Lib.hid st0.bel
      clear st0 htr hp HST hoff hq'
      go_wp2_with fail
      go_ret2
      exact ⟨rfl, HF.out⟩
end Go.Proofs.YtfckjilhkdlpfaaGreatDoor

namespace MS
abbrev P130 : Nat := 1361129467683753853853498429727072845819
structure L5 where
  a : Nat
  b : Nat
  c : Nat
  d : Nat
  e : Nat
def L5.v (x : L5) : Nat := x.a + 67108864 * x.b + 4503599627370496 * x.c + 302231454903657293676544 * x.d + 20282409603651670423947251286016 * x.e
/-- A step of carry: what has come over from below. -/
def cov (x over : Nat) : Nat := (x + over) / 67108864
def crs (x over : Nat) : Nat := (x + over) % 67108864
def carL (x : L5) : L5 :=
  let o0 := cov x.a 0
  let o1 := cov x.b o0
  let o2 := cov x.c o1
  let o3 := cov x.d o2
  let o4 := cov x.e o3
  ⟨crs x.a 0 + 5 * o4, crs x.b o0, crs x.c o1, crs x.d o2, crs x.e o3⟩
theorem carL_v (x : L5) : ∃ k, (carL x).v + k * P130 = x.v := by
  refine ⟨cov x.e (cov x.d (cov x.c (cov x.b (cov x.a 0)))), ?_⟩
  simp only [carL, L5.v, cov, crs, P130]
  omega
theorem carL_mod (x : L5) : (carL x).v % P130 = x.v % P130 := by
  obtain ⟨k, h⟩ := carL_v x
  rw [← h, Nat.add_mul_mod_self_right]
theorem carL_lt (x : L5) (ha : x.a < 1152921504606846976) (hb : x.b < 1152921504606846976) (hc : x.c < 1152921504606846976) (hd : x.d < 1152921504606846976) (he : x.e < 1152921504606846976) :
    (carL x).a < 137438953472 ∧ (carL x).b < 67108864 ∧ (carL x).c < 67108864 ∧ (carL x).d < 67108864 ∧ (carL x).e < 67108864 := by
  simp only [carL, cov, crs]
  omega
/-- The product's five sums. -/
def mulD (h r : L5) : L5 :=
  ⟨h.a * r.a + 5 * (h.b * r.e + h.c * r.d + h.d * r.c + h.e * r.b),
   h.a * r.b + h.b * r.a + 5 * (h.c * r.e + h.d * r.d + h.e * r.c),
   h.a * r.c + h.b * r.b + h.c * r.a + 5 * (h.d * r.e + h.e * r.d),
   h.a * r.d + h.b * r.c + h.c * r.b + h.d * r.a + 5 * (h.e * r.e),
   h.a * r.e + h.b * r.d + h.c * r.c + h.d * r.b + h.e * r.a⟩
theorem mulD_mod (h r : L5) : (mulD h r).v % P130 = h.v * r.v % P130 := by
  have e : (mulD h r).v + (h.b * r.e + h.c * r.d + h.d * r.c + h.e * r.b + 67108864 * (h.c * r.e + h.d * r.d + h.e * r.c) + 4503599627370496 * (h.d * r.e + h.e * r.d) + 302231454903657293676544 * (h.e * r.e)) * P130 = h.v * r.v := by
    simp only [mulD, L5.v, P130]
    simp only [Nat.add_mul, Nat.mul_add]
    generalize h.a = a1
    generalize h.b = b1
    generalize h.c = c1
    generalize h.d = d1
    generalize h.e = e1
    generalize r.a = a2
    generalize r.b = b2
    generalize r.c = c2
    generalize r.d = d2
    generalize r.e = e2
    grind
  rw [← e, Nat.add_mul_mod_self_right]
/-- Bounds in and between the steps. -/
def L5.in28 (x : L5) : Prop := x.a < 268435456 ∧ x.b < 268435456 ∧ x.c < 268435456 ∧ x.d < 268435456 ∧ x.e < 268435456
def L5.in26 (x : L5) : Prop := x.a < 67108864 ∧ x.b < 67108864 ∧ x.c < 67108864 ∧ x.d < 67108864 ∧ x.e < 67108864
def L5.in27 (x : L5) : Prop := x.a < 67108864 ∧ x.b < 67110912 ∧ x.c < 67108864 ∧ x.d < 67108864 ∧ x.e < 67108864
/-- What mul returns. -/
def mulL (h r : L5) : L5 :=
  let d := carL (mulD h r)
  ⟨d.a % 67108864, d.b + d.a / 67108864, d.c, d.d, d.e⟩
theorem mul54 {x y : Nat} (hx : x < 268435456) (hy : y < 67108864) : x * y < 18014398509481984 :=
  Nat.lt_of_le_of_lt (Nat.mul_le_mul (Nat.le_of_lt_succ (show x < 268435455 + 1 from hx)) (Nat.le_of_lt_succ (show y < 67108863 + 1 from hy))) (by decide)
theorem mulD_lt {h r : L5} (hh : h.in28) (hr : r.in26) : (mulD h r).a < 1152921504606846976 ∧ (mulD h r).b < 1152921504606846976 ∧ (mulD h r).c < 1152921504606846976 ∧ (mulD h r).d < 1152921504606846976 ∧ (mulD h r).e < 1152921504606846976 := by
  obtain ⟨h0, h1, h2, h3, h4⟩ := hh
  obtain ⟨r0, r1, r2, r3, r4⟩ := hr
  have m : ∀ x y, x < 268435456 → y < 67108864 → x * y < 18014398509481984 := fun x y => mul54
  have := m _ _ h0 r0; have := m _ _ h0 r1; have := m _ _ h0 r2; have := m _ _ h0 r3; have := m _ _ h0 r4
  have := m _ _ h1 r0; have := m _ _ h1 r1; have := m _ _ h1 r2; have := m _ _ h1 r3; have := m _ _ h1 r4
  have := m _ _ h2 r0; have := m _ _ h2 r1; have := m _ _ h2 r2; have := m _ _ h2 r3; have := m _ _ h2 r4
  have := m _ _ h3 r0; have := m _ _ h3 r1; have := m _ _ h3 r2; have := m _ _ h3 r3; have := m _ _ h3 r4
  have := m _ _ h4 r0; have := m _ _ h4 r1; have := m _ _ h4 r2; have := m _ _ h4 r3; have := m _ _ h4 r4
  simp only [mulD]
  omega
theorem mulL_in {h r : L5} (hh : h.in28) (hr : r.in26) : (mulL h r).in27 := by
  obtain ⟨m0, m1, m2, m3, m4⟩ := mulD_lt hh hr
  obtain ⟨c0, c1, c2, c3, c4⟩ := carL_lt (mulD h r) m0 m1 m2 m3 m4
  unfold L5.in27 mulL
  simp only
  omega
theorem mulL_mod (h r : L5) : (mulL h r).v % P130 = h.v * r.v % P130 := by
  have e : (mulL h r).v = (carL (mulD h r)).v := by
    simp only [mulL, L5.v]
    omega
  rw [e, carL_mod, mulD_mod]
/-- The least one. -/
def twice5 (x : L5) : L5 := carL (carL x)
theorem twice5_in {x : L5} (h : x.in27) : (twice5 x).in26 := by
  obtain ⟨a, b, c, d, e⟩ := x
  obtain ⟨h0, h1, h2, h3, h4⟩ := h
  simp only at h0 h1 h2 h3 h4
  unfold L5.in26 twice5
  simp only [carL, cov, crs]
  omega
theorem twice5_mod (x : L5) : (twice5 x).v % P130 = x.v % P130 := by rw [twice5, carL_mod, carL_mod]
def plus5 (x : L5) : Nat × L5 :=
  let o0 := cov (x.a + 5) 0
  let o1 := cov x.b o0
  let o2 := cov x.c o1
  let o3 := cov x.d o2
  let o4 := cov x.e o3
  (o4, ⟨crs (x.a + 5) 0, crs x.b o0, crs x.c o1, crs x.d o2, crs x.e o3⟩)
def leastL (x : L5) : L5 := if 0 < (plus5 (twice5 x)).1 then (plus5 (twice5 x)).2 else twice5 x
theorem plus5_v (x : L5) : (plus5 x).2.v + (plus5 x).1 * 1361129467683753853853498429727072845824 = x.v + 5 := by
  simp only [plus5, L5.v, cov, crs]
  omega
theorem plus5_in (x : L5) : (plus5 x).2.in26 := by
  unfold L5.in26
  simp only [plus5, crs]
  omega
theorem in26_v {x : L5} (h : x.in26) : x.v < 1361129467683753853853498429727072845824 := by
  obtain ⟨h0, h1, h2, h3, h4⟩ := h
  unfold L5.v
  omega
theorem leastL_v {x : L5} (h : x.in27) : (leastL x).v = x.v % P130 := by
  have h1 := twice5_in h
  have h2 := in26_v h1
  have h3 := plus5_v (twice5 x)
  have h4 := in26_v (plus5_in (twice5 x))
  rw [← twice5_mod x]
  unfold leastL
  generalize twice5 x = y at *
  generalize (plus5 y).1 = o at *
  split
  · rename_i ho
    have ho1 : o = 1 := by omega
    subst ho1
    have e : y.v = (plus5 y).2.v + 1 * P130 := by unfold P130; omega
    rw [e, Nat.add_mul_mod_self_right, Nat.mod_eq_of_lt (by unfold P130; omega)]
  · rename_i ho
    have ho0 : o = 0 := by omega
    subst ho0
    rw [Nat.mod_eq_of_lt (by unfold P130; omega)]
theorem leastL_in {x : L5} (h : x.in27) : (leastL x).in26 := by
  unfold leastL
  split
  · exact plus5_in _
  · exact twice5_in h
end MS

namespace MS
/-- Bytes as a number, the lowest one first. -/
def leb : List UInt8 → Nat
  | [] => 0
  | b :: l => b.toNat + 256 * leb l
theorem leb_lt (l : List UInt8) : leb l < 256 ^ l.length := by
  induction l with
  | nil => decide
  | cons b l ih =>
    have := b.toNat_lt
    rw [leb, List.length_cons, Nat.pow_succ]
    generalize 256 ^ l.length = X at *
    omega
theorem leb_app (a b : List UInt8) : leb (a ++ b) = leb a + 256 ^ a.length * leb b := by
  induction a with
  | nil => simp [leb]
  | cons x a ih =>
    rw [List.cons_append, leb, leb, ih, List.length_cons, Nat.pow_succ, Nat.mul_add, Nat.mul_comm (256 ^ a.length) 256, Nat.mul_assoc]
    omega
theorem leb_div (l : List UInt8) (i : Nat) : leb l / 256 ^ i = leb (l.drop i) := by
  induction i generalizing l with
  | zero => simp
  | succ i ih =>
    cases l with
    | nil => simp [leb]
    | cons b l =>
      have := b.toNat_lt
      rw [List.drop_succ_cons, ← ih l, Nat.pow_succ, Nat.mul_comm, ← Nat.div_div_eq_div_mul, leb]
      congr 1
      omega
theorem leb_mod (l : List UInt8) (i : Nat) : leb l % 256 ^ i = leb (l.take i) := by
  by_cases h : i ≤ l.length
  · have e := leb_app (l.take i) (l.drop i)
    have hl := leb_lt (l.take i)
    rw [List.take_append_drop, List.length_take, Nat.min_eq_left h] at e
    rw [List.length_take, Nat.min_eq_left h] at hl
    rw [e, Nat.add_mul_mod_self_left, Nat.mod_eq_of_lt hl]
  · rw [List.take_of_length_le (by omega), Nat.mod_eq_of_lt (Nat.lt_of_lt_of_le (leb_lt l) (Nat.pow_le_pow_right (by decide) (by omega)))]
theorem leb_digit (l : List UInt8) (i : Nat) (h : i < l.length) : leb l / 256 ^ i % 256 = (l[i]).toNat := by
  rw [leb_div, List.drop_eq_getElem_cons h, leb]
  have := (l[i]).toNat_lt
  omega
theorem leb_zeros (n : Nat) : leb (List.replicate n 0) = 0 := by
  induction n with
  | zero => rfl
  | succ n ih => rw [List.replicate_succ, leb, ih]; rfl
/-- The n lowest bytes of a number. -/
def nbs (n v : Nat) : List UInt8 := (dgn 256 n v).map UInt8.ofNat
theorem length_nbs (n v : Nat) : (nbs n v).length = n := by rw [nbs, List.length_map, length_dgn]
theorem nbs_get (n v i : Nat) (h : i < n) : (nbs n v)[i]? = some (UInt8.ofNat (v / 256 ^ i % 256)) := by
  rw [nbs, List.getElem?_map, dg_get _ _ _ _ h]; rfl
/-- The limbs of 16 bytes. -/
def splitL (v : Nat) : L5 := ⟨v % 67108864, v / 67108864 % 67108864, v / 4503599627370496 % 67108864, v / 302231454903657293676544 % 67108864, v / 20282409603651670423947251286016⟩
theorem splitL_v (v : Nat) : (splitL v).v = v := by
  simp only [splitL, L5.v]
  omega
theorem splitL_in {v : Nat} (h : v < 340282366920938463463374607431768211456) : (splitL v).in26 ∧ (splitL v).e < 16777216 := by
  unfold L5.in26
  simp only [splitL]
  omega
/-- Bits cleared in the key's first half. -/
def c1 (x : Nat) : Nat := x % 4 + x / 256 * 256
def c2 (x : Nat) : Nat := x % 256 + x / 16384 * 16384
def c3 (x : Nat) : Nat := x % 16384 + x / 1048576 * 1048576
def c4 (x : Nat) : Nat := x % 1048576
def pclampL (v : Nat) : L5 := ⟨(splitL v).a, c1 (splitL v).b, c2 (splitL v).c, c3 (splitL v).d, c4 (splitL v).e⟩
theorem pclampL_in {v : Nat} (h : v < 340282366920938463463374607431768211456) : (pclampL v).in26 := by
  obtain ⟨⟨h0, h1, h2, h3, h4⟩, h5⟩ := splitL_in h
  unfold L5.in26 pclampL c1 c2 c3 c4
  simp only
  omega
def clampN (v : Nat) : Nat := (pclampL v).v
theorem and_two {x k r r' M q : Nat} (hx : x = 2 ^ k * q + r) (hr : r < 2 ^ k) (hr' : r' < 2 ^ k) : x &&& (2 ^ k * M + r') = 2 ^ k * (q &&& M) + (r &&& r') := by
  apply Nat.eq_of_testBit_eq
  intro j
  have h3 : r &&& r' < 2 ^ k := Nat.and_lt_two_pow _ hr'
  rw [hx, Nat.testBit_and, Nat.testBit_two_pow_mul_add _ hr, Nat.testBit_two_pow_mul_add _ hr', Nat.testBit_two_pow_mul_add _ h3]
  split
  · rw [Nat.testBit_and]
  · rw [Nat.testBit_and]
theorem and_low {x : Nat} (n : Nat) : x &&& (2 ^ n - 1) = x % 2 ^ n := Nat.and_two_pow_sub_one_eq_mod x n
theorem and_mid (x m k n : Nat) (hm : m ≤ k) (hx : x < 2 ^ (k + n)) : x &&& (2 ^ k * (2 ^ n - 1) + (2 ^ m - 1)) = x % 2 ^ m + x / 2 ^ k * 2 ^ k := by
  have hk : 2 ^ m ≤ 2 ^ k := Nat.pow_le_pow_right (by decide) hm
  have hm0 := Nat.two_pow_pos m
  rw [and_two (q := x / 2 ^ k) (r := x % 2 ^ k) (by rw [Nat.div_add_mod]) (Nat.mod_lt _ (Nat.two_pow_pos k)) (by omega), and_low, and_low, Nat.mod_mod_of_dvd _ (Nat.pow_dvd_pow 2 hm),
    Nat.mod_eq_of_lt (a := x / 2 ^ k) (by rw [Nat.div_lt_iff_lt_mul (Nat.two_pow_pos k), ← Nat.pow_add, Nat.add_comm n k]; exact hx), Nat.mul_comm, Nat.add_comm]
theorem and_c1 (x : Nat) (h : x < 67108864) : x &&& 67108611 = c1 x := and_mid x 2 8 18 (by decide) h
theorem and_c2 (x : Nat) (h : x < 67108864) : x &&& 67092735 = c2 x := and_mid x 8 14 12 (by decide) h
theorem and_c3 (x : Nat) (h : x < 67108864) : x &&& 66076671 = c3 x := and_mid x 14 20 6 (by decide) h
theorem and_c4 (x : Nat) : x &&& 1048575 = c4 x := and_low 20
/-- A digit of what is left. -/
def clD (i d : Nat) : Nat := if i % 4 = 3 then d % 16 else if i % 4 = 0 ∧ 0 < i then d / 4 * 4 else d
def cw (a w : Nat) : Nat := if a = 0 then w % 268435456 else w % 268435456 / 4 * 4
theorem clampN_words (v : Nat) : clampN v = cw 0 (v % 4294967296) + 4294967296 * cw 1 (v / 4294967296 % 4294967296) + 18446744073709551616 * cw 1 (v / 18446744073709551616 % 4294967296) + 79228162514264337593543950336 * cw 1 (v / 79228162514264337593543950336) := by
  have e1 : v / 67108864 % 67108864 = v % 4294967296 / 67108864 + 64 * (v / 4294967296 % 4294967296 % 1048576) := by omega
  have e2 : v / 4503599627370496 % 67108864 = v / 4294967296 % 4294967296 / 1048576 + 4096 * (v / 18446744073709551616 % 4294967296 % 16384) := by omega
  have e3 : v / 302231454903657293676544 % 67108864 = v / 18446744073709551616 % 4294967296 / 16384 + 262144 * (v / 79228162514264337593543950336 % 256) := by omega
  have e4 : v / 20282409603651670423947251286016 = v / 79228162514264337593543950336 / 256 := by omega
  have e0 : v % 67108864 = v % 4294967296 % 67108864 := by omega
  have b0 : v % 4294967296 < 4294967296 := Nat.mod_lt _ (by decide)
  have b1 : v / 4294967296 % 4294967296 < 4294967296 := Nat.mod_lt _ (by decide)
  have b2 : v / 18446744073709551616 % 4294967296 < 4294967296 := Nat.mod_lt _ (by decide)
  simp only [clampN, pclampL, splitL, L5.v, e0, e1, e2, e3, e4]
  generalize v % 4294967296 = w0 at *
  generalize v / 4294967296 % 4294967296 = w1 at *
  generalize v / 18446744073709551616 % 4294967296 = w2 at *
  generalize v / 79228162514264337593543950336 = w3 at *
  clear e0 e1 e2 e3 e4
  have x0 : w0 % 67108864 + 67108864 * c1 (w0 / 67108864 + 64 * (w1 % 1048576)) = w0 % 268435456 + 4294967296 * (w1 % 1048576 / 4 * 4) := by
    unfold c1; omega
  have x1 : c2 (w1 / 1048576 + 4096 * (w2 % 16384)) = w1 / 1048576 % 256 + 4096 * (w2 % 16384 / 4 * 4) := by
    unfold c2; omega
  have x2 : c3 (w2 / 16384 + 262144 * (w3 % 256)) = w2 / 16384 % 16384 + 262144 * (w3 % 256 / 4 * 4) := by
    unfold c3; omega
  have x3 : c4 (w3 / 256) = w3 / 256 % 1048576 := rfl
  rw [x1, x2, x3]
  have x4 : w0 % 67108864 + 67108864 * c1 (w0 / 67108864 + 64 * (w1 % 1048576)) = _ := x0
  rw [x0]
  simp only [cw, if_pos, if_neg (show ¬ (1 = 0) by decide)]
  clear x0 x1 x2 x3 x4
  omega
theorem dig_word (v q r : Nat) (hr : r < 4) : v / 4294967296 ^ q % 4294967296 / 256 ^ r % 256 = v / 256 ^ (4 * q + r) % 256 := by
  rw [Nat.pow_add, Nat.pow_mul, show (256 : Nat) ^ 4 = 4294967296 by decide, ← Nat.div_div_eq_div_mul]
  generalize v / 4294967296 ^ q = u
  have : r = 0 ∨ r = 1 ∨ r = 2 ∨ r = 3 := by omega
  rcases this with rfl | rfl | rfl | rfl <;> simp <;> omega
theorem cw_dig (a w r : Nat) (hr : r < 4) : cw a w / 256 ^ r % 256 = clD (4 * a + r) (w / 256 ^ r % 256) := by
  have h4 : (4 * a + r) % 4 = r := by omega
  unfold cw clD
  rw [h4]
  have : r = 0 ∨ r = 1 ∨ r = 2 ∨ r = 3 := by omega
  by_cases ha : a = 0
  · subst ha
    rcases this with rfl | rfl | rfl | rfl <;> simp <;> omega
  · rw [if_neg ha]
    rcases this with rfl | rfl | rfl | rfl <;> simp <;> (try rw [if_pos (by omega)]) <;> omega
theorem cw_lt (a w : Nat) : cw a w < 4294967296 := by unfold cw; split <;> omega
theorem cw_one (a w : Nat) (h : a ≠ 0) : cw 1 w = cw a w := by unfold cw; rw [if_neg (by decide), if_neg h]
theorem clampN_dig (v i : Nat) (hi : i < 16) (hv : v < 340282366920938463463374607431768211456) : clampN v / 256 ^ i % 256 = clD i (v / 256 ^ i % 256) := by
  obtain ⟨q, r, hq, hr, rfl⟩ : ∃ q r, q < 4 ∧ r < 4 ∧ i = 4 * q + r := ⟨i / 4, i % 4, by omega, by omega, by omega⟩
  rw [← dig_word (clampN v) q r hr, ← dig_word v q r hr]
  have h0 : v / 79228162514264337593543950336 % 4294967296 = v / 79228162514264337593543950336 := by omega
  have hw : clampN v / 4294967296 ^ q % 4294967296 = cw q (v / 4294967296 ^ q % 4294967296) := by
    rw [clampN_words, ← h0]
    have l0 := cw_lt 0 (v % 4294967296)
    have l1 := cw_lt 1 (v / 4294967296 % 4294967296)
    have l2 := cw_lt 1 (v / 18446744073709551616 % 4294967296)
    have l3 := cw_lt 1 (v / 79228162514264337593543950336 % 4294967296)
    have : q = 0 ∨ q = 1 ∨ q = 2 ∨ q = 3 := by omega
    rcases this with rfl | rfl | rfl | rfl
    · simp only [Nat.pow_zero, Nat.div_one]; omega
    · simp only [Nat.pow_one]; omega
    · rw [← cw_one 2 _ (by decide), show (4294967296 : Nat) ^ 2 = 18446744073709551616 by decide]; omega
    · rw [← cw_one 3 _ (by decide), show (4294967296 : Nat) ^ 3 = 79228162514264337593543950336 by decide]; omega
  rw [hw]
  exact cw_dig q _ r hr
theorem clampN_lt {v : Nat} : clampN v < 340282366920938463463374607431768211456 + 79228162514264337593543950336 * 0 := by
  rw [clampN_words]
  have l0 := cw_lt 0 (v % 4294967296)
  have l1 := cw_lt 1 (v / 4294967296 % 4294967296)
  have l2 := cw_lt 1 (v / 18446744073709551616 % 4294967296)
  have l3 := cw_lt 1 (v / 79228162514264337593543950336)
  omega

/-- The product's loops. -/
def tmP (X Y : Nat → Nat) (i j : Nat) : Nat := X i * (if i + j ≥ 5 then Y j * 5 else Y j)
def ixP (i j : Nat) : Nat := if i + j ≥ 5 then i + j - 5 else i + j
def innP (X Y f : Nat → Nat) (i : Nat) : Nat → Nat → Nat
  | 0 => f
  | j + 1 => upd (innP X Y f i j) (ixP i j) (innP X Y f i j (ixP i j) + tmP X Y i j)
def outP (X Y : Nat → Nat) : Nat → Nat → Nat
  | 0 => fun _ => 0
  | i + 1 => innP X Y (outP X Y i) i 5
theorem ixP_lt {i j : Nat} (hi : i < 5) (hj : j < 5) : ixP i j < 5 := by unfold ixP; split <;> omega
def TBP : Nat := 90071992547409920
theorem tmP_le {X Y : Nat → Nat} (hX : ∀ i, X i < 268435456) (hY : ∀ i, Y i < 67108864) (i j : Nat) : tmP X Y i j ≤ TBP := by
  have h1 := mul54 (hX i) (hY j)
  unfold tmP TBP
  split
  · rw [← Nat.mul_assoc]; omega
  · omega
theorem innP_le {X Y f : Nat → Nat} {i C : Nat} (hX : ∀ i, X i < 268435456) (hY : ∀ i, Y i < 67108864) (hf : ∀ k, f k ≤ C) (j k : Nat) : innP X Y f i j k ≤ C + j * TBP := by
  induction j generalizing k with
  | zero => rw [Nat.zero_mul]; exact hf k
  | succ j ih =>
    have h1 := ih k
    have h2 := ih (ixP i j)
    have h3 := tmP_le hX hY i j
    rw [innP, upd, Nat.succ_mul]
    split <;> omega
theorem outP_le {X Y : Nat → Nat} (hX : ∀ i, X i < 268435456) (hY : ∀ i, Y i < 67108864) (i k : Nat) : outP X Y i k ≤ 5 * i * TBP := by
  induction i generalizing k with
  | zero => exact Nat.zero_le _
  | succ i ih =>
    have := innP_le (i := i) hX hY ih 5 k
    rw [outP, show 5 * (i + 1) = 5 * i + 5 by omega, Nat.add_mul]
    exact this
theorem innP_lt {X Y : Nat → Nat} (hX : ∀ i, X i < 268435456) (hY : ∀ i, Y i < 67108864) {i : Nat} (hi : i < 5) {j : Nat} (hj : j ≤ 5) (k : Nat) : innP X Y (outP X Y i) i j k ≤ 2251799813685248000 := by
  have h1 := innP_le (i := i) hX hY (outP_le hX hY i) j k
  have h2 : 5 * i * TBP + j * TBP ≤ 25 * TBP := by
    rw [← Nat.add_mul]; exact Nat.mul_le_mul_right _ (by omega)
  unfold TBP at *
  omega
def getL (x : L5) : Nat → Nat
  | 0 => x.a
  | 1 => x.b
  | 2 => x.c
  | 3 => x.d
  | _ => x.e
theorem getL_28 {x : L5} (h : x.in28) (j : Nat) : getL x j < 268435456 := by
  obtain ⟨h1, h2, h3, h4, h5⟩ := h
  unfold getL
  split <;> assumption
theorem getL_26 {x : L5} (h : x.in26) (j : Nat) : getL x j < 67108864 := by
  obtain ⟨h1, h2, h3, h4, h5⟩ := h
  unfold getL
  split <;> assumption
theorem outP_end (x y : L5) : rowF (outP (getL x) (getL y) 5) = rowF (getL (mulD x y)) := by
  have h : ∀ k, k < 5 → outP (getL x) (getL y) 5 k = getL (mulD x y) k := by
    intro k hk
    have : k = 0 ∨ k = 1 ∨ k = 2 ∨ k = 3 ∨ k = 4 := by omega
    rcases this with rfl | rfl | rfl | rfl | rfl <;> simp [outP, innP, upd, ixP, tmP, getL, mulD, ← Nat.mul_assoc] <;> (have := Nat.mul_assoc 5 x.e y.e; omega)
  exact rowF_congr h
/-- The steps of carry. -/
def cvN (X : Nat → Nat) : Nat → Nat
  | 0 => 0
  | j + 1 => (X j + cvN X j) / 67108864
def cvG (X : Nat → Nat) (j : Nat) : Nat := (X j + cvN X j) % 67108864
theorem cvN_le (X : Nat → Nat) (h : ∀ j, X j < 4611686018427387904) (j : Nat) : cvN X j < 137438953472 := by
  induction j with
  | zero => show 0 < _; decide
  | succ j ih => have := h j; rw [cvN]; omega
theorem carL_row (x : L5) : rowF (upd (cvG (getL x)) 0 (cvG (getL x) 0 + 5 * cvN (getL x) 5)) = rowF (getL (carL x)) := by
  refine rowF_congr fun k hk => ?_
  have : k = 0 ∨ k = 1 ∨ k = 2 ∨ k = 3 ∨ k = 4 := by omega
  rcases this with rfl | rfl | rfl | rfl | rfl <;> simp [upd, cvG, cvN, getL, carL, cov, crs]
theorem mulL_row (h r : L5) : rowF (upd (upd (getL (carL (mulD h r))) 1 ((carL (mulD h r)).b + (carL (mulD h r)).a / 67108864)) 0 ((carL (mulD h r)).a % 67108864)) = rowF (getL (mulL h r)) := by
  refine rowF_congr fun k hk => ?_
  have : k = 0 ∨ k = 1 ∨ k = 2 ∨ k = 3 ∨ k = 4 := by omega
  rcases this with rfl | rfl | rfl | rfl | rfl <;> simp [upd, getL, mulL]
/-- The steps of least: five more on the lowest limb. -/
theorem plus5_row (x : L5) : rowF (cvG (upd (getL x) 0 (x.a + 5))) = rowF (getL (plus5 x).2) ∧ cvN (upd (getL x) 0 (x.a + 5)) 5 = (plus5 x).1 := by
  refine ⟨rowF_congr fun k hk => ?_, ?_⟩
  · have : k = 0 ∨ k = 1 ∨ k = 2 ∨ k = 3 ∨ k = 4 := by omega
    rcases this with rfl | rfl | rfl | rfl | rfl <;> simp [upd, cvG, cvN, getL, plus5, cov, crs]
  · simp [upd, cvN, getL, plus5, cov]

/-- The tag: h behind k blocks. -/
def blkP (l : List UInt8) (k : Nat) : List UInt8 := (l.drop (16 * k)).take 16
def stepP (r h : Nat) (b : List UInt8) : Nat := (h + (leb b + 256 ^ b.length)) * r % P130
def hP (r : Nat) (l : List UInt8) : Nat → Nat
  | 0 => 0
  | k + 1 => stepP r (hP r l k) (blkP l k)
def tagB (key s : ByteArray) : ByteArray := bs (nbs 16 (hP (clampN (leb ((ls key).take 16))) (ls s) ((s.size + 15) / 16) + leb ((ls key).drop 16)))
theorem size_tagB (key s : ByteArray) : (tagB key s).size = 16 := by rw [tagB, size_bs, length_nbs]
end MS

namespace MS
theorem half_lt (key : ByteArray) (h : key.size = 32) : leb ((ls key).drop 16) < 256 ^ 16 := by
  have := leb_lt ((ls key).drop 16)
  rwa [List.length_drop, length_ls, h] at this
end MS

namespace Go.Proofs.YtfckjilhkdlpfaaGreatDoor
open Go.RowKit MS
set_option maxHeartbeats 400000 in
theorem turn_no (key nonce : ByteArray) (c : Int) (s : ByteArray) (h : key.size ≠ 32 ∨ nonce.size ≠ 12) (w : World) :
    Calls Tryz.prog 63 #[.string key, .string nonce, .int .u32 c, .string s] w fun e w' => e = .returned (.tuple #[.string ⟨#[]⟩, .bool false]) ∧ Below w.heap.size w w' := by
  have H := Lib.hid (begin_no key nonce c h)
  clear h
  go_enter Tryz.func63, Tryz.ntmps63
  go_wp2_with fail
  refine (H.out _).mono ?_
  rintro e w1 ⟨rfl, hb1⟩
  go_wp2_with fail
  go_ret2
  refine ⟨rfl, ?_⟩
  repeat (first | (with_reducible exact Below.refl _ _) | (with_reducible refine below_setCell ?_ (by simp) _) | (with_reducible apply below_alloc) | (with_reducible refine below_chain ?_ hb1))

theorem wpAny_tailCh {P : Program} {md : Region.Mode} {Q : Exit → Act → World → Prop} {l : List Oper} {listed : Array Bool} {a : Act} {w : World} (n g : Nat) (hB : Region.seqB md l.toArray g n listed = true) (hg : (l.drop n).length = g)
    (h : wpList P l.toArray Q (l.drop n) a w) : wpAny P md l.toArray Q g listed a w := by
  subst hg
  exact wpAny_of_seq (l.drop n) n listed a w (fun j => by simp [List.getElem?_drop]) hB h

theorem conv_nilCh (w : World) : (convert 83 9 (.slice none 0 0)).run Tryz.prog w = .ok (.string ⟨#[]⟩) w := by
  rw [run_convert_bytes_string w 83 9 5 _ _ _ Tryz.underlying83 Tryz.underlying5 Tryz.underlying9]
  simp [Conv.bytesToString, Sem.run_pure]
  rfl
/-- The first m blocks of the stream. -/
def sl (k n : ByteArray) (c : W32) (m : Nat) : List UInt8 := (List.range (64 * m)).map (ks k n c)
theorem length_sl (k n : ByteArray) (c : W32) (m : Nat) : (sl k n c m).length = 64 * m := by simp [sl]
theorem length_blkB (S : Array W32) : (ls (blkB S)).length = 64 := by
  have := size_orow (zz (drs 10 S) S) 16
  rw [show orow (zz (drs 10 S) S) 16 = blk S from rfl, blk_blkB] at this
  simpa using this
theorem size_blkB (S : Array W32) : (blkB S).size = 64 := by
  have h := length_blkB S
  generalize blkB S = b at h
  exact h
theorem sl_succ (k n : ByteArray) (c : W32) (m : Nat) : bs (sl k n c m) ++ blkB (iw k n (c + BitVec.ofNat 32 m)) = bs (sl k n c (m + 1)) := by
  apply ls_inj
  rw [ls_append, ls_bs, ls_bs]
  apply List.ext_getElem?
  intro i
  have hb := length_blkB (iw k n (c + BitVec.ofNat 32 m))
  rw [List.getElem?_append, length_sl]
  by_cases h : i < 64 * m
  · rw [if_pos h]
    simp [sl, h, show i < 64 * (m + 1) by omega]
  · rw [if_neg h]
    by_cases h2 : i < 64 * (m + 1)
    · obtain ⟨j, rfl⟩ : ∃ j, i = 64 * m + j := ⟨i - 64 * m, by omega⟩
      simp [sl, h2, ks_at k n c m j (by omega), hb, show j < 64 by omega]
    · rw [List.getElem?_eq_none (by omega), List.getElem?_eq_none (by rw [length_sl]; omega)]
def pre (l : List UInt8) (f : Nat → UInt8) (j : Nat) : List UInt8 := (List.range j).map fun i => l.getD i 0 ^^^ f i
theorem pre_succ (l : List UInt8) (f : Nat → UInt8) (j : Nat) : pre l f (j + 1) = pre l f j ++ [l.getD j 0 ^^^ f j] := by
  simp [pre, List.range_succ]
theorem ls_getCh (s : ByteArray) (j : Nat) (h : j < s.size) : s[j]'h = (ls s).getD j 0 := by
  have hl : j < s.data.toList.length := by simpa using h
  unfold ls
  rw [List.getD_eq_getElem?_getD, List.getElem?_eq_getElem hl]
  rfl
theorem strm_byte (k n : ByteArray) (c : W32) (m : Nat) (b : ByteArray) (hb : b = bs (sl k n c m)) (j : Nat) (h : j < b.size) : b[j]'h = ks k n c j := by
  rw [ls_getCh b j h]
  subst hb
  rw [size_bs, length_sl] at h
  rw [ls_bs, sl]
  generalize ks k n c = f
  simp [h]
def strLenCh : Value → Nat
  | .string b => b.size
  | _ => 0

attribute [local go_sem] w_succ b_xor
set_option maxRecDepth 100000 in
set_option maxHeartbeats 500000 in
theorem rturn (k n : ByteArray) (c : W32) (s : ByteArray) (w : World) (hk : k.size = 32) (hn : n.size = 12) (hs : s.size ≤ 10000) :
    Calls Tryz.prog 57 #[.string k, .string n, .int .u32 (wv c), .string s] w fun e w' => e = .returned (.string (bs (trn (ls s) (ks k n c)))) ∧ Below w.heap.size w w' := by
  obtain ⟨i8, hj0, hy0, hy1, hy2⟩ : ∃ i, Tryz.prog.info? 5 = some i ∧ i.zero = some (.int .u8 0) ∧ i.size = 1 ∧ i.bytes = 1 := ⟨_, rfl, rfl, rfl, rfl⟩
  have R := Lib.hid (fun c w => rblock k n c w hk hn)
  have HS := Lib.hid hs
  clear hk hn hs
  go_enter Tryz.func57, Tryz.ntmps57
  go_wp2_with fail
  go_loopw [2, 9] (fun cv st wr => ∃ (m : Nat) (b : ByteArray), cv = .int .u32 (wv (c + BitVec.ofNat 32 m)) ∧ st = .string b ∧ b = bs (sl k n c m) ∧ (m = 0 ∨ 64 * m < s.size + 64) ∧ Below w.heap.size w wr) (fun _ st _ => s.size - strLenCh st)
  case atStart => exact ⟨0, bs (sl k n c 0), by rw [show c + BitVec.ofNat 32 0 = c from BitVec.add_zero c], rfl, rfl, .inl rfl, Below.refl _ _⟩
  case round =>
    obtain ⟨m, b, rfl, rfl, hb, hm, bel⟩ := hrel
    have hbs : b.size = 64 * m := by
      have : (ls b).length = 64 * m := by rw [hb, ls_bs, length_sl]
      exact this
    have HB := Lib.hid hb
    have HBL := Lib.hid bel
    have HM := Lib.hid hm
    have HBS := Lib.hid hbs
    clear hb bel hm
    by_cases hlt : 64 * m < s.size
    · have hi : (b.size : Int) < s.size := by omega
      clear hbs
      go_wp2_with fail
      refine (R.out _ _).mono ?_
      rintro e w2 ⟨rfl, hb2⟩
      have h64 : (blkB (iw k n (c + BitVec.ofNat 32 m))).size = 64 := size_blkB _
      have hsum : b.size + (blkB (iw k n (c + BitVec.ofNat 32 m))).size ≤ 9223372036854775807 := by have := HS.out; have := HBS.out; omega
      have HB2 := Lib.hid hb2
      generalize hbk : blkB (iw k n (c + BitVec.ofNat 32 m)) = bk at h64 hsum
      have HBK := Lib.hid hbk
      clear hb2 hbk
      go_wp2_with fail
      go_roundw
      case rel =>
        exact ⟨m + 1, b ++ bk, by rw [w_succ, count_up], rfl, by rw [HB.out, ← HBK.out, sl_succ], .inr (by omega), HBL.out.trans (HB2.out.mono HBL.out.size)⟩
      case measure =>
        show s.size - (b ++ bk).size < s.size - b.size
        rw [ByteArray.size_append]
        omega
    · have hi : ¬ ((b.size : Int) < s.size) := by omega
      have hle : s.size ≤ b.size := by omega
      have HLE := Lib.hid hle
      clear hbs hlt hle
      go_wp2_with fail
      go_loopw [10, 11] (fun v i wr => ∃ j : Nat, j ≤ s.size ∧ i = .int .i64 j ∧ wr.ownsRow w.heap.size 5 1 v j (vlsCh (pre (ls s) (ks k n c) j)) ∧ (j = 0 → v = .slice none 0 0) ∧ Below w.heap.size w wr) (fun _ i _ => s.size - (intOf i).toNat)
      case atStart => exact ⟨0, by omega, rfl, ⟨rfl, .inl ⟨rfl, rfl⟩⟩, fun _ => rfl, HBL.out⟩
      case round =>
        obtain ⟨j, hj, rfl, hown, hnil, hnx⟩ := hrel
        have HNIL := Lib.hid hnil
        clear hnil
        have HOWN := Lib.hid hown
        have HNX := Lib.hid hnx
        clear hown hnx hi
        by_cases hjN : j < s.size
        · have ji : (j : Int) < s.size := Int.ofNat_lt.2 hjN
          have hjb : j < b.size := Nat.lt_of_lt_of_le hjN HLE.out
          have jb : (j : Int) < b.size := Int.ofNat_lt.2 hjb
          have jn : (0 : Int) ≤ j := Int.natCast_nonneg j
          have jw : (j : Int) < 10000 := by have := HS.out; omega
          have HJN := Lib.hid hjN
          have HJB := Lib.hid hjb
          clear hjb
          go_wp2_with fail
          refine wp_region_any (by kernel_rfl) ?_
          change wpAny _ _ _ _ _ _ _ (World.drew _)
          refine wpAny_take_atCh (i := 0) (d := 31) (v := u10) rfl (by kernel_rfl) (by kernel_rfl) (by kernel_rfl) (fun _ _ _ h => h) rfl (Or.inl ⟨by rfl, by intro w; go_simp⟩) ?_
          simp only [Act.put, List.setIfInBounds_toArray, List.set_cons_zero, List.set_cons_succ]
          refine wpAny_quiet_mid (fun w' => ∃ k, w' = wr.drewN k) #[true, true, true, true, true, true, true, true, false, false, false] 1 7 3 (by kernel_rfl) (by kernel_rfl) (by kernel_rfl) (by kernel_rfl) rfl ⟨1, rfl⟩ ?_
          simp only [List.take_succ_cons, List.take_zero, List.drop_succ_cons, List.drop_zero]
          repeat (go_big_quiet_step (fail))
          refine wpQuiet_nil ?_
          intro _ hw'
          obtain ⟨kk, hw''⟩ := hw'
          subst hw''
          refine wpAny_tailCh 8 3 (by kernel_rfl) rfl ?_
          simp only [List.drop_succ_cons, List.drop_zero]
          have HBQ := Lib.hid (show Below _ _ (wr.drewN kk) from ⟨HNX.out.os, HNX.out.tape, HNX.out.output, HNX.out.size, HNX.out.block⟩)
          have HOQ := Lib.hid (show (wr.drewN kk).ownsRow _ _ _ _ _ _ from HOWN.out)
          have hs0 : _ ≤ (wr.drewN kk).heap.size := HNX.out.size
          generalize wr.drewN kk = wq at HBQ HOQ hs0 ⊢
          have HA := Lib.hid (HOQ.out.alloc (.cells #[.int .u8 ((s[j]'hjN ^^^ b[j]'HJB.out).toNat : Int)] 5 (0, 0)))
          have HM := Lib.hid (show j + 1 ≤ maxLen by have := HS.out; unfold maxLen; omega)
          have HN := Lib.hid (show (j + 1) * 1 ≤ 140737488355328 by have := HS.out; omega)
          have hxv : Value.int .u8 (((s[j]'hjN).toNat ^^^ (b[j]'HJB.out).toNat : Nat) : Int) = Value.int .u8 ((s[j]'hjN ^^^ b[j]'HJB.out).toNat : Int) := by simp
          rw [hxv]
          have hnew : s[j]'hjN ^^^ b[j]'HJB.out = (ls s).getD j 0 ^^^ ks k n c j := by
            rw [ls_getCh s j hjN, strm_byte k n c m b HB.out j HJB.out]
          generalize s[j]'hjN ^^^ b[j]'HJB.out = x at HA hnew ⊢
          have HNEW := Lib.hid hnew
          clear hxv hnew
          go_wp2_with (at_builtin; refine wpList_append_own _ rfl (.tmp 31) (.tmp 39) 83 rfl _ 5 i8 (.int .u8 0) 1 1 Tryz.underlying83 hj0 hy0 hy1 hy2 rfl (by decide) _ _ _ rfl HA.out ⟨wq.heap.size, 0, none⟩ 1 1 [.int .u8 (x.toNat : Int)] rfl rfl (one_cellCh wq _ _) (one_oneCh _ rfl) HM.out HN.out (le_allocCh hs0 _) ?_)
          intro v1 w1 h1 h2 h3
          have HB1 := Lib.hid (below_appCh HBQ.out _ _ _ _ _ HOQ.out h2)
          have HO1 := Lib.hid h1
          clear h1 h2 h3 hs0
          go_wp2_with fail
          go_roundw
          case rel =>
            refine ⟨j + 1, by omega, by go_num, ?_, fun h => by omega, HB1.out⟩
            rw [pre_succ, vls_appCh, ← HNEW.out]
            exact HO1.out
          case measure => simp [intOf]; omega
        · have ji : ¬ ((j : Int) < s.size) := by omega
          have hjs : j = s.size := by omega
          have htr : pre (ls s) (ks k n c) s.size = trn (ls s) (ks k n c) := by rw [pre, trn, length_ls]
          have HL := Lib.hid HNX.out
          by_cases h0 : s.size = 0
          · obtain rfl := HNIL.out (by omega)
            have he : bs (trn (ls s) (ks k n c)) = ⟨#[]⟩ := by
              rw [← htr, h0]
              rfl
            have HE := Lib.hid he
            have hcv := conv_nilCh wr
            clear he htr h0 hjs HOWN HNX HNIL
            go_wp2_with fail
            go_ret
            exact ⟨by rw [HE.out]; rfl, HL.out⟩
          · have HO6 := HOWN.out
            rw [hjs, htr] at HO6
            obtain ⟨go, capo, rfl, _, _⟩ := HO6.form (by omega)
            have hcv := conv_outCh (trn (ls s) (ks k n c)) s.size (by rw [length_trn, length_ls]) HO6
            clear HO6 hjs htr HOWN HNX HNIL h0 hjN
            go_wp2_with fail
            go_ret
            exact ⟨rfl, HL.out⟩
end Go.Proofs.YtfckjilhkdlpfaaGreatDoor

namespace Go.Proofs.YtfckjilhkdlpfaaGreatDoor
open Go.RowKit MS
theorem trn_trn (l : List UInt8) (f : Nat → UInt8) : trn (trn l f) f = l := by
  apply List.ext_getElem?
  intro i
  by_cases h : i < l.length
  · have : i < (trn l f).length := by rw [length_trn]; exact h
    rw [trn, List.getElem?_map, List.getElem?_range this, Option.map_some, List.getElem?_eq_getElem h]
    have e : (trn l f).getD i 0 = l[i] ^^^ f i := by simp [trn, h]
    rw [e, UInt8.xor_assoc, UInt8.xor_self, UInt8.xor_zero]
  · rw [List.getElem?_eq_none (by rw [length_trn, length_trn]; omega), List.getElem?_eq_none (by omega)]
theorem turn_back (s : ByteArray) (f : Nat → UInt8) : bs (trn (ls (bs (trn (ls s) f))) f) = s := by
  rw [ls_bs, trn_trn, bs_ls]
end Go.Proofs.YtfckjilhkdlpfaaGreatDoor

namespace Go.Proofs.YtfckjilhkdlpfaaGreatDoor
open Go.RowKit MS
/-- Up to whole blocks of 16. -/
def alZ (n : Nat) : Nat := (16 - n % 16) % 16
def alignL (l : List UInt8) : List UInt8 := l ++ List.replicate (alZ l.length) 0
theorem length_alignL (l : List UInt8) : (alignL l).length = l.length + alZ l.length := by simp [alignL]
theorem alZ_le (n : Nat) : alZ n ≤ 15 := by unfold alZ; omega
theorem align_mod (l : List UInt8) : (alignL l).length % 16 = 0 := by rw [length_alignL]; unfold alZ; omega
theorem align_app (a b : List UInt8) (h : a.length % 16 = 0) : alignL (a ++ b) = a ++ alignL b := by
  have e : alZ (a ++ b).length = alZ b.length := by rw [List.length_append]; unfold alZ; omega
  rw [alignL, e, List.append_assoc]; rfl
/-- What the tag is of. -/
def tagL (wi text : List UInt8) : List UInt8 := alignL wi ++ alignL text ++ nbs 8 wi.length ++ nbs 8 text.length
def tagA (k n wi text : ByteArray) : ByteArray := tagB ((blkB (iw k n 0)).extract 0 32) (bs (tagL (ls wi) (ls text)))
theorem size_tagA (k n wi text : ByteArray) : (tagA k n wi text).size = 16 := size_tagB _ _
/-- Turned by the stream from block 1 on. -/
def trnA (k n s : ByteArray) : ByteArray := bs (trn (ls s) (ks k n 1))
theorem size_trnA (k n s : ByteArray) : (trnA k n s).size = s.size := by rw [trnA, size_bs, length_trn, length_ls]
theorem trnA_back (k n s : ByteArray) : trnA k n (trnA k n s) = s := turn_back s _
def sealA (k n wi s : ByteArray) : ByteArray := trnA k n s ++ tagA k n wi (trnA k n s)
theorem size_sealA (k n wi s : ByteArray) : (sealA k n wi s).size = s.size + 16 := by
  rw [sealA, ByteArray.size_append, size_trnA, size_tagA]
def openA (k n wi box : ByteArray) : Option ByteArray :=
  if box.size < 16 then none else if tagA k n wi (box.extract 0 (box.size - 16)) = box.extract (box.size - 16) box.size then some (trnA k n (box.extract 0 (box.size - 16))) else none
theorem ext_app_left (a b : ByteArray) (n : Nat) (h : n = a.size) : (a ++ b).extract 0 n = a := by
  apply ls_inj
  rw [ls_extract, ls_append, List.drop_zero, Nat.sub_zero, List.take_left' (by rw [length_ls, h])]
theorem ext_app_right (a b : ByteArray) (n m : Nat) (h : n = a.size) (hm : m = a.size + b.size) : (a ++ b).extract n m = b := by
  apply ls_inj
  rw [ls_extract, ls_append, List.drop_left' (by rw [length_ls, h]), List.take_of_length_le (by rw [length_ls]; omega)]
theorem ext_split (s : ByteArray) (n : Nat) : s.extract 0 n ++ s.extract n s.size = s := by
  apply ls_inj
  have hl := length_ls s
  rw [ls_append, ls_extract, ls_extract, List.drop_zero, Nat.sub_zero, List.take_of_length_le (l := (ls s).drop n) (by simp [hl]), List.take_append_drop]
/-- What is sealed is opened to what it was. -/
theorem open_seal (k n wi s : ByteArray) : openA k n wi (sealA k n wi s) = some s := by
  have hs := size_sealA k n wi s
  have h1 : (sealA k n wi s).extract 0 ((sealA k n wi s).size - 16) = trnA k n s := ext_app_left _ _ _ (by rw [hs, size_trnA]; omega)
  have h2 : (sealA k n wi s).extract ((sealA k n wi s).size - 16) (sealA k n wi s).size = tagA k n wi (trnA k n s) := ext_app_right _ _ _ _ (by rw [hs, size_trnA]; omega) (by rw [hs, size_trnA, size_tagA])
  rw [openA, if_neg (by omega), h1, h2, if_pos rfl, trnA_back]
/-- What is opened, and sealed, is the same box. -/
theorem seal_open (k n wi box s : ByteArray) (h : openA k n wi box = some s) : sealA k n wi s = box := by
  unfold openA at h
  split at h
  · cases h
  · split at h
    · rename_i h1 h2
      cases h
      rw [sealA, trnA_back, h2, ext_split _ _]
    · cases h
/-- With another tag alone it is not opened. -/
theorem open_other (k n wi s x : ByteArray) (hx : x.size = s.size + 16) (h1 : x.extract 0 s.size = (sealA k n wi s).extract 0 s.size) (h2 : x ≠ sealA k n wi s) : openA k n wi x = none := by
  rw [openA, if_neg (by omega), show x.size - 16 = s.size by omega, h1]
  rw [if_neg]
  intro e
  apply h2
  have e1 := ext_split x s.size
  rw [hx] at e1 e
  rw [← e1, h1, ← e]
  have h3 : (sealA k n wi s).extract 0 s.size = trnA k n s := ext_app_left _ _ _ (by rw [size_trnA])
  rw [h3]; rfl
theorem size_openA {k n wi box s : ByteArray} (h : openA k n wi box = some s) : box.size = s.size + 16 := by rw [← seal_open k n wi box s h, size_sealA]
end Go.Proofs.YtfckjilhkdlpfaaGreatDoor

namespace Go.Proofs.YtfckjilhkdlpfaaGreatDoor
open Go.RowKit MS
structure Bt (T : TypeId) (g : Nat) (w0 : World) (L : List UInt8) (w : World) : Prop where
  ge : w0.heap.size ≤ g
  ro : w.heap[g]? = some (.cells (vls L).toArray T (0, 0))
  bel : Below w0.heap.size w0 w
theorem Bt.put {T : TypeId} {g : Nat} {w0 w : World} {L : List UInt8} (h : Bt T g w0 L w) (i : Nat) (x : UInt8) : Bt T g w0 (L.set i x) (w.setCell ⟨g, i, none⟩ (valB x)) := by
  refine ⟨h.ge, ?_, h.bel.setCell h.ge _⟩
  rw [heap_setCell_same w g i _ _ _ h.ro]
  congr 2
  apply Array.toList_inj.1
  simp [vls, List.map_set]
theorem Bt.cell {T : TypeId} {g : Nat} {w0 w : World} {L : List UInt8} (h : Bt T g w0 L w) (i : Nat) (hi : i < L.length) : w.cell? ⟨g, i, none⟩ = some (.int .u8 ((L.getD i 0).toNat : Int)) := by
  rw [cell_of_row w g i _ _ _ h.ro]
  simp [vls, hi, valB]
theorem Bt.free {T : TypeId} {g : Nat} {w0 w : World} {L : List UInt8} (h : Bt T g w0 L w) (i : Nat) : w.frozen? ⟨g, i, none⟩ = false := frozen_of_row w g i _ _ h.ro
theorem Bt.lt {T : TypeId} {g : Nat} {w0 w : World} {L : List UInt8} (h : Bt T g w0 L w) : g < w.heap.size := (Array.getElem?_eq_some_iff.1 h.ro).1
theorem Bt.on {T : TypeId} {g : Nat} {w0 w w' : World} {L : List UInt8} (h : Bt T g w0 L w) (hb : Below w.heap.size w w') : Bt T g w0 L w' := ⟨h.ge, (hb.block _ h.lt).trans h.ro, h.bel.trans (hb.mono h.bel.size)⟩
theorem Bt.drewN {T : TypeId} {g : Nat} {w0 w : World} {L : List UInt8} (h : Bt T g w0 L w) (k : Nat) : Bt T g w0 L (w.drewN k) := ⟨h.ge, h.ro, below_drewN h.bel k⟩
theorem Bt.made {T : TypeId} {w0 w : World} (hb : Below w0.heap.size w0 w) (L : List UInt8) : Bt T w.heap.size w0 L (w.alloc (.cells (vls L).toArray T (0, 0))) :=
  ⟨hb.size, (MapKept.heap_alloc w _).1, below_alloc hb _⟩
theorem Bt.conv {T : TypeId} {g : Nat} {w0 w : World} {L : List UInt8} (h : Bt T g w0 L w) (n c : Nat) (hn : L.length = n) :
    (convert 83 9 (.slice (some ⟨g, 0, none⟩) n c)).run Tryz.prog w = .ok (.string (bs L)) w := by
  refine run_bytes_to_string w 83 9 5 Tryz.underlying83 Tryz.underlying5 Tryz.underlying9 g 0 n c L hn (fun j hj => ?_)
  rw [Nat.zero_add, cell_of_row w g j _ _ _ h.ro]
  simp [vls, valB, hj]
theorem bt_copied {T : TypeId} {g : Nat} {w0 w : World} {n : Nat} (h : Bt T g w0 (List.replicate n 0) w) (r : ByteArray) :
    Bt T g w0 (ls r ++ List.replicate (n - (ls r).length) 0) (w.setRow g ((vls (List.replicate n 0)).toArray.toList.take 0 ++ Lib.byteCells r.data.toList ++ (vls (List.replicate n 0)).toArray.toList.drop (0 + r.size)).toArray) := by
  refine ⟨h.ge, ?_, below_setRow h.bel h.ge _⟩
  rw [setRow_heap w g _ _ _ _ h.ro]
  congr 2
  apply Array.toList_inj.1
  simp [vls, Lib.byteCells, ls, valB]
theorem wpList_copy_bt {w : World} {ops : Array Oper} {rest : List Oper} {o : Oper} {a : Act} {Q : Exit → Act → World → Prop} (hgd : o.guard = none) (d s : Operand)
    (ho : o.op = .call { callee := .builtin .copy, args := #[d, s], argTypes := #[83, 9] })
    (T : TypeId) (g n dCap : Nat) (str : ByteArray) (hd : a.eval d = .slice (some ⟨g, 0, none⟩) n dCap) (hs : a.eval s = .string str)
    (w0 : World) (hg : Bt T g w0 (List.replicate n 0) w) (hle : str.size ≤ n)
    (h : ∀ w', Bt T g w0 (ls str ++ List.replicate (n - (ls str).length) 0) w' → wpList Tryz.prog ops Q rest (a.put o.dst (goInt str.size)) w') : wpList Tryz.prog ops Q (o :: rest) a w := by
  refine wpList_plain hgd fun K hK => ?_
  have hrun := Lib.run_copy_row_string (P := Tryz.prog) w 83 9 o.type 5 g 0 n dCap str (vls (List.replicate n 0)).toArray T Tryz.underlying83 (by kernel_rfl) hg.ro hle (by simpa [vls] using hle)
  have h' := h _ (bt_copied hg str)
  generalize (w.setRow g _) = w' at hrun h'
  unfold Oper.wp
  simp [execOp, ho, resolve, invoke, builtin, hd, hs, hrun, Result.andThen]
  exact hK _ _ h'
theorem made_u8 (m : Nat) : (madeCells #[Value.int .u8 0] m).toList = vls (List.replicate m 0) := by
  rw [toList_madeCells_one, vls, List.map_replicate]
  rfl
theorem zeros16 : (#[.int .u8 0, .int .u8 0, .int .u8 0, .int .u8 0, .int .u8 0, .int .u8 0, .int .u8 0, .int .u8 0, .int .u8 0, .int .u8 0, .int .u8 0, .int .u8 0, .int .u8 0, .int .u8 0, .int .u8 0, .int .u8 0] : Array Value) = (vls (List.replicate 16 0)).toArray := rfl
set_option maxRecDepth 100000 in
theorem wpList_append_strP {w : World} {ops : Array Oper} {rest : List Oper} {o : Oper} {a : Act} {Q : Exit → Act → World → Prop} (hgd : o.guard = none) (sl x : Operand)
    (ho : o.op = .call { callee := .builtin .append, args := #[sl, x], argTypes := #[83, 9] })
    (base : Nat) (v : Value) (n : Nat) (l : List UInt8) (hs : a.eval sl = v) (hown : w.ownsRow base 5 1 v n (vls l)) (s : ByteArray) (hx : a.eval x = .string s) (hb : n + s.size ≤ 1000000) (hbase : base ≤ w.heap.size)
    (h : ∀ v' w', w'.ownsRow base 5 1 v' (n + s.size) (vls (l ++ ls s)) → w.grownBy w' v.ownBlock → wpList Tryz.prog ops Q rest (a.put o.dst v') w') : wpList Tryz.prog ops Q (o :: rest) a w := by
  refine wpList_plain hgd fun K hK => ?_
  obtain ⟨i8, hj0, hy0, hy1, hy2⟩ : ∃ i, Tryz.prog.info? 5 = some i ∧ i.zero = some (.int .u8 0) ∧ i.size = 1 ∧ i.bytes = 1 := ⟨_, rfl, rfl, rfl, rfl⟩
  obtain ⟨v', w', hr, h2, h3, _⟩ := Lib.run_append_own_string (P := Tryz.prog) w base 83 9 o.type 5 i8 Tryz.underlying83 Tryz.underlying9 hj0 hy0 hy1 hy2 v n (vls l) hown s (by unfold maxLen; omega) (by omega) hbase
  have e : vls l ++ Lib.strCells s = vls (l ++ ls s) := by
    simp [vls, Lib.strCells, ls, valB]
  rw [e] at h2
  unfold Oper.wp execOp
  simp only [ho, resolve, invoke, builtin, Sem.run_bind, Sem.run_pure, Result.andThen_ok, List.map_toArray, List.map_cons, List.map_nil, hs, hx, hr]
  exact hK _ _ (h v' w' h2 h3)
end Go.Proofs.YtfckjilhkdlpfaaGreatDoor

namespace Go.Proofs.YtfckjilhkdlpfaaGreatDoor
open Go.RowKit MS
/-- A number's five cells. -/
def lvA (x : L5) : Array Value := rowF (getL x)
theorem ext4P (s : ByteArray) (j : Nat) (h : j + 4 ≤ s.size) : s.extract j (j + 4) = ByteArray.mk #[(ls s).getD j 0, (ls s).getD (j + 1) 0, (ls s).getD (j + 2) 0, (ls s).getD (j + 3) 0] := by
  apply ls_inj
  rw [ls_extract]
  have hl := length_ls s
  show ((ls s).drop j).take (j + 4 - j) = [_, _, _, _]
  generalize ls s = l at hl
  rw [show j + 4 - j = 4 by omega]
  apply List.ext_getElem
  · simp; omega
  · intro i h1 h2
    simp at h1
    have h4 : i < 4 := by omega
    have hi : j + i < l.length := by omega
    match i, h4 with
    | 0, _ => simp [show j < l.length by omega]
    | 1, _ => simp [show j + 1 < l.length by omega]
    | 2, _ => simp [show j + 2 < l.length by omega]
    | 3, _ => simp [show j + 3 < l.length by omega]

theorem wr64 (n : Nat) (h : n < 18446744073709551616) : IntKind.u64.wrap (n : Int) = ((n : Nat) : Int) := by
  rw [IntKind.wrap_u64]
  omega
theorem or_mulP (a b k : Nat) (h : a < 2 ^ k) : a ||| b * 2 ^ k = b * 2 ^ k + a := by
  rw [Nat.or_comm, ← Nat.shiftLeft_eq, Nat.shiftLeft_add_eq_or_of_lt h]
theorem le_or4u (x0 x1 x2 x3 : UInt8) (h0 : 0 < (ByteArray.mk #[x0, x1, x2, x3]).size) (h1 : 1 < (ByteArray.mk #[x0, x1, x2, x3]).size) (h2 : 2 < (ByteArray.mk #[x0, x1, x2, x3]).size) (h3 : 3 < (ByteArray.mk #[x0, x1, x2, x3]).size) :
    bits .or .u64 (bits .or .u64 (bits .or .u64 (IntKind.u64.wrap (((ByteArray.mk #[x0, x1, x2, x3])[0]'h0).toNat : Int)) (IntKind.u64.wrap (IntKind.u64.wrap (((ByteArray.mk #[x0, x1, x2, x3])[1]'h1).toNat : Int) * 256))) (IntKind.u64.wrap (IntKind.u64.wrap (((ByteArray.mk #[x0, x1, x2, x3])[2]'h2).toNat : Int) * 65536))) (IntKind.u64.wrap (IntKind.u64.wrap (((ByteArray.mk #[x0, x1, x2, x3])[3]'h3).toNat : Int) * 16777216))
      = ((leb [x0, x1, x2, x3] : Nat) : Int) := by
  have e0 : ((ByteArray.mk #[x0, x1, x2, x3])[0]'h0) = x0 := rfl
  have e1 : ((ByteArray.mk #[x0, x1, x2, x3])[1]'h1) = x1 := rfl
  have e2 : ((ByteArray.mk #[x0, x1, x2, x3])[2]'h2) = x2 := rfl
  have e3 : ((ByteArray.mk #[x0, x1, x2, x3])[3]'h3) = x3 := rfl
  rw [e0, e1, e2, e3]
  have b0 := x0.toNat_lt
  have b1 := x1.toNat_lt
  have b2 := x2.toNat_lt
  have b3 := x3.toNat_lt
  have hle : leb [x0, x1, x2, x3] = x3.toNat * 16777216 + (x2.toNat * 65536 + (x1.toNat * 256 + x0.toNat)) := by
    simp only [leb]; omega
  rw [hle]
  generalize x0.toNat = a at *
  generalize x1.toNat = b at *
  generalize x2.toNat = c at *
  generalize x3.toNat = d at *
  have w1 : IntKind.u64.wrap ((b : Int)) = ((b : Nat) : Int) := wr64 b (by omega)
  have w2 : IntKind.u64.wrap ((c : Int)) = ((c : Nat) : Int) := wr64 c (by omega)
  have w3 : IntKind.u64.wrap ((d : Int)) = ((d : Nat) : Int) := wr64 d (by omega)
  have w0 : IntKind.u64.wrap ((a : Int)) = ((a : Nat) : Int) := wr64 a (by omega)
  have v1 : IntKind.u64.wrap ((b : Int) * 256) = ((b * 256 : Nat) : Int) := wr64 (b * 256) (by omega)
  have v2 : IntKind.u64.wrap ((c : Int) * 65536) = ((c * 65536 : Nat) : Int) := wr64 (c * 65536) (by omega)
  have v3 : IntKind.u64.wrap ((d : Int) * 16777216) = ((d * 16777216 : Nat) : Int) := wr64 (d * 16777216) (by omega)
  rw [w1, w2, w3, w0, v1, v2, v3, u64_or_nat _ _ (by omega) (by omega), or_mulP a b 8 (by omega), u64_or_nat _ _ (by omega) (by omega), or_mulP (b * 256 + a) c 16 (by omega), u64_or_nat _ _ (by omega) (by omega), or_mulP _ d 24 (by omega)]

set_option maxRecDepth 100000 in
set_option maxHeartbeats 1000000 in
theorem pword_any (s : ByteArray) (i : Nat) (w : World) (h : i + 4 ≤ s.size) (hs : s.size ≤ 1000) :
    Calls Tryz.prog 136 #[.string s, .int .i64 i] w fun e w' => e = .returned (.int .u64 ((leb (((ls s).drop i).take 4) : Nat) : Int)) ∧ Below w.heap.size w w' := by
  have hE := ext4P s i h
  have HL : ((ls s).drop i).take 4 = [(ls s).getD i 0, (ls s).getD (i + 1) 0, (ls s).getD (i + 2) 0, (ls s).getD (i + 3) 0] := by
    have := congrArg ls hE
    rw [ls_extract, Nat.add_sub_cancel_left] at this
    exact this
  rw [HL]
  clear HL
  generalize (ls s).getD i 0 = x0 at *
  generalize (ls s).getD (i + 1) 0 = x1 at *
  generalize (ls s).getD (i + 2) 0 = x2 at *
  generalize (ls s).getD (i + 3) 0 = x3 at *
  obtain ⟨L, hL⟩ : ∃ L, leb [x0, x1, x2, x3] = L := ⟨_, rfl⟩
  rw [hL]
  have HLE := Lib.hid hL
  clear hL
  have i0 : (0 : Int) ≤ (i : Int) := by omega
  have i1 : (i : Int) + 4 ≤ s.size := by omega
  have i2 : (i : Int) ≤ (i : Int) + 4 := by omega
  have i3 : (s.size : Int) ≤ 1000 := by omega
  have e2 : ((i : Int) + 4).toNat = i + 4 := by omega
  go_enter Tryz.func136, Tryz.ntmps136
  go_upto_region 2 with fail
  clear hE
  have b0 := x0.toNat_lt
  have b1 := x1.toNat_lt
  have b2 := x2.toNat_lt
  have b3 := x3.toNat_lt
  refine wp_region_draws_tail 18 (by kernel_rfl) (by kernel_rfl) ?_
  simp only [List.take_succ_cons, List.take_zero, List.drop_succ_cons, List.drop_zero]
  repeat (go_big_quiet_step (fail))
  refine wpQuiet_nil ?_
  intro _ hw'
  obtain ⟨k, hw''⟩ := hw'
  subst hw''
  rw [le_or4u x0 x1 x2 x3, HLE.out]
  go_wp2_with fail
  go_ret
  exact ⟨rfl, below_drewN (Below.refl _ _) k⟩
/-- Four bytes from place i on, as a part of the whole. -/
theorem word_part (l : List UInt8) (i : Nat) : leb ((l.drop i).take 4) = leb l / 256 ^ i % 4294967296 := by
  rw [← leb_mod, ← leb_div]
theorem and26 (a : Nat) (h : a < 18446744073709551616) : bits .and .u64 (a : Int) 67108863 = ((a % 67108864 : Nat) : Int) := by
  have := u64_and_nat a 67108863 h (by decide)
  rw [show ((67108863 : Nat) : Int) = 67108863 from rfl] at this
  rw [this, show (67108863 : Nat) = 2 ^ 26 - 1 from rfl, Nat.and_two_pow_sub_one_eq_mod]
theorem split_parts (v : Nat) : (splitL v).a = v / 256 ^ 0 % 4294967296 % 67108864 ∧ (splitL v).b = v / 256 ^ 3 % 4294967296 / 4 % 67108864 ∧ (splitL v).c = v / 256 ^ 6 % 4294967296 / 16 % 67108864 ∧
    (splitL v).d = v / 256 ^ 9 % 4294967296 / 64 ∧ (v < 340282366920938463463374607431768211456 → (splitL v).e = v / 256 ^ 12 % 4294967296 / 256) := by
  simp only [splitL, show (256 : Nat) ^ 0 = 1 from rfl, show (256 : Nat) ^ 3 = 16777216 from rfl, show (256 : Nat) ^ 6 = 281474976710656 from rfl, show (256 : Nat) ^ 9 = 4722366482869645213696 from rfl, show (256 : Nat) ^ 12 = 79228162514264337593543950336 from rfl]
  omega
theorem pinfoL (f : Nat → Nat) : (Tryz.prog.info? 142).map (·.size) = some (rowF f).size := by rw [size_rowF]; kernel_rfl
set_option maxRecDepth 100000 in
set_option maxHeartbeats 1000000 in
theorem split_any (s : ByteArray) (w : World) (hs : s.size = 16) :
    Calls Tryz.prog 121 #[.string s] w fun e w' => e = .returned (.agg (lvA (splitL (leb (ls s))))) ∧ Below w.heap.size w w' := by
  have W0 := Lib.hid (fun w => pword_any s 0 w (by omega) (by omega))
  have W3 := Lib.hid (fun w => pword_any s 3 w (by omega) (by omega))
  have W6 := Lib.hid (fun w => pword_any s 6 w (by omega) (by omega))
  have W9 := Lib.hid (fun w => pword_any s 9 w (by omega) (by omega))
  have W12 := Lib.hid (fun w => pword_any s 12 w (by omega) (by omega))
  rw [word_part] at W0 W3 W6 W9 W12
  have hv := leb_lt (ls s)
  rw [length_ls, hs, show (256 : Nat) ^ 16 = 340282366920938463463374607431768211456 by decide] at hv
  obtain ⟨p0, p1, p2, p3, p4⟩ := split_parts (leb (ls s))
  have p4 := p4 hv
  have HR := Lib.hid (show lvA (splitL (leb (ls s))) = #[.int .u64 ((splitL (leb (ls s))).a : Int), .int .u64 ((splitL (leb (ls s))).b : Int), .int .u64 ((splitL (leb (ls s))).c : Int), .int .u64 ((splitL (leb (ls s))).d : Int), .int .u64 ((splitL (leb (ls s))).e : Int)] from rfl)
  rw [HR.out, p0, p1, p2, p3, p4]
  have b0 : leb (ls s) / 256 ^ 0 % 4294967296 < 4294967296 := Nat.mod_lt _ (by decide)
  have b3 : leb (ls s) / 256 ^ 3 % 4294967296 < 4294967296 := Nat.mod_lt _ (by decide)
  have b6 : leb (ls s) / 256 ^ 6 % 4294967296 < 4294967296 := Nat.mod_lt _ (by decide)
  have b9 : leb (ls s) / 256 ^ 9 % 4294967296 < 4294967296 := Nat.mod_lt _ (by decide)
  have b12 : leb (ls s) / 256 ^ 12 % 4294967296 < 4294967296 := Nat.mod_lt _ (by decide)
  clear HR p0 p1 p2 p3 p4 hv
  generalize leb (ls s) / 256 ^ 0 % 4294967296 = v0 at *
  generalize leb (ls s) / 256 ^ 3 % 4294967296 = v3 at *
  generalize leb (ls s) / 256 ^ 6 % 4294967296 = v6 at *
  generalize leb (ls s) / 256 ^ 9 % 4294967296 = v9 at *
  generalize leb (ls s) / 256 ^ 12 % 4294967296 = v12 at *
  have a0 := and26 v0 (by omega)
  have a3 := and26 (v3 / 4) (by omega)
  have a6 := and26 (v6 / 16) (by omega)
  have d3 : (v3 : Int) / 4 = ((v3 / 4 : Nat) : Int) := by omega
  have d6 : (v6 : Int) / 16 = ((v6 / 16 : Nat) : Int) := by omega
  have d9 : (v9 : Int) / 64 = ((v9 / 64 : Nat) : Int) := by omega
  have d12 : (v12 : Int) / 256 = ((v12 / 256 : Nat) : Int) := by omega
  have z : ((0 : Nat) : Int) = 0 := rfl
  have z3 : ((3 : Nat) : Int) = 3 := rfl
  have z6 : ((6 : Nat) : Int) = 6 := rfl
  have z9 : ((9 : Nat) : Int) = 9 := rfl
  have z12 : ((12 : Nat) : Int) = 12 := rfl
  rw [z] at W0
  rw [z3] at W3
  rw [z6] at W6
  rw [z9] at W9
  rw [z12] at W12
  have m0 : v0 % 67108864 < 67108864 := Nat.mod_lt _ (by decide)
  have m3 : v3 / 4 % 67108864 < 67108864 := Nat.mod_lt _ (by decide)
  have m6 : v6 / 16 % 67108864 < 67108864 := Nat.mod_lt _ (by decide)
  have n3 : v3 / 4 < 4294967296 := by omega
  have n6 : v6 / 16 < 4294967296 := by omega
  generalize v0 % 67108864 = r0 at *
  generalize v3 / 4 % 67108864 = r3 at *
  generalize v6 / 16 % 67108864 = r6 at *
  generalize v3 / 4 = q3 at *
  generalize v6 / 16 = q6 at *
  generalize v9 / 64 = r9 at *
  generalize v12 / 256 = r12 at *
  clear hs z z3 z6 z9 z12
  have R0 := (Rw.nil w).alloc #[.int .u64 0, .int .u64 0, .int .u64 0, .int .u64 0, .int .u64 0] 142
  simp only [List.nil_append] at R0
  have RR0 := Lib.hid R0
  have IN := Lib.hid (show (Tryz.prog.info? 142).map (·.size) = some (#[.int .u64 (r0 : Int), .int .u64 (r3 : Int), .int .u64 (r6 : Int), .int .u64 (r9 : Int), .int .u64 (r12 : Int)] : Array Value).size from by kernel_rfl)
  have LN := Lib.hid (show (#[.int .u64 0, .int .u64 0, .int .u64 0, .int .u64 0, .int .u64 0] : Array Value).size = (#[.int .u64 (r0 : Int), .int .u64 (r3 : Int), .int .u64 (r6 : Int), .int .u64 (r9 : Int), .int .u64 (r12 : Int)] : Array Value).size from rfl)
  have ON := Lib.hid (show (#[.int .u64 (r0 : Int), .int .u64 (r3 : Int), .int .u64 (r6 : Int), .int .u64 (r9 : Int), .int .u64 (r12 : Int)] : Array Value).all (·.oneCell') = true from by simp [Value.oneCell'])
  clear R0 p4
  go_enter Tryz.func121, Tryz.ntmps121
  go_wp2_with fail
  refine (W0.out _).mono ?_
  rintro e w1 ⟨rfl, hb⟩
  have R1 := Lib.hid (RR0.out.on hb)
  clear hb
  go_wp2_with fail
  refine (W3.out _).mono ?_
  rintro e w2 ⟨rfl, hb⟩
  have R2 := Lib.hid (R1.out.on hb)
  clear hb
  go_wp2_with fail
  refine (W6.out _).mono ?_
  rintro e w3 ⟨rfl, hb⟩
  have R3 := Lib.hid (R2.out.on hb)
  clear hb
  go_wp2_with fail
  refine (W9.out _).mono ?_
  rintro e w4 ⟨rfl, hb⟩
  have R4 := Lib.hid (R3.out.on hb)
  clear hb
  go_wp2_with fail
  refine (W12.out _).mono ?_
  rintro e w5 ⟨rfl, hb⟩
  have R5 := Lib.hid (R4.out.on hb)
  clear hb
  have RW := Lib.hid (R5.out.row 0)
  go_wp2_with (with_reducible refine wpList_store_row rfl 142 (.tmp 2) (.tmp 20) rfl w.heap.size #[.int .u64 (r0 : Int), .int .u64 (r3 : Int), .int .u64 (r6 : Int), .int .u64 (r9 : Int), .int .u64 (r12 : Int)] rfl rfl 142 #[.int .u64 0, .int .u64 0, .int .u64 0, .int .u64 0, .int .u64 0] RW.out IN.out LN.out ON.out ?_)
  have R6 := R5.out.store 0 #[.int .u64 (r0 : Int), .int .u64 (r3 : Int), .int .u64 (r6 : Int), .int .u64 (r9 : Int), .int .u64 (r12 : Int)]
  refine bodyPost_ret (results_cell_row rfl _ _ w.heap.size 142 #[.int .u64 (r0 : Int), .int .u64 (r3 : Int), .int .u64 (r6 : Int), .int .u64 (r9 : Int), .int .u64 (r12 : Int)] (0, 0) _ rfl (R6.row 0) Tryz.underlying142 rfl IN.out) rfl ⟨rfl, R6.bel⟩
end Go.Proofs.YtfckjilhkdlpfaaGreatDoor

namespace Go.Proofs.YtfckjilhkdlpfaaGreatDoor
open Go.RowKit MS
theorem and_con (x m r : Nat) (hx : x < 18446744073709551616) (hm : m < 18446744073709551616) (h : x &&& m = r) : bits .and .u64 (x : Int) (m : Int) = ((r : Nat) : Int) := by
  rw [u64_and_nat x m hx hm, h]
theorem pclamp_row (v : Nat) : rowF (upd (upd (upd (upd (getL (splitL v)) 1 (c1 (getL (splitL v) 1))) 2 (c2 (getL (splitL v) 2))) 3 (c3 (getL (splitL v) 3))) 4 (c4 (getL (splitL v) 4))) = lvA (pclampL v) := by
  refine rowF_congr fun i hi => ?_
  have : i = 0 ∨ i = 1 ∨ i = 2 ∨ i = 3 ∨ i = 4 := by omega
  rcases this with rfl | rfl | rfl | rfl | rfl <;> simp [upd, getL, pclampL]

set_option maxRecDepth 100000 in
set_option maxHeartbeats 1000000 in
theorem polyclamp_any (s : ByteArray) (w : World) (hs : s.size = 16) :
    Calls Tryz.prog 120 #[.string s] w fun e w' => e = .returned (.agg (lvA (pclampL (leb (ls s))))) ∧ Below w.heap.size w w' := by
  have S := Lib.hid (fun w => split_any s w hs)
  have hv := leb_lt (ls s)
  rw [length_ls, hs, show (256 : Nat) ^ 16 = 340282366920938463463374607431768211456 by decide] at hv
  have hb := getL_26 (splitL_in hv).1
  have HRES := Lib.hid (pclamp_row (leb (ls s)))
  have HLA := Lib.hid (show lvA (splitL (leb (ls s))) = rowF (getL (splitL (leb (ls s)))) from rfl)
  rw [HLA.out] at S
  have b1 := hb 1
  have b2 := hb 2
  have b3 := hb 3
  have b4 := hb 4
  generalize getL (splitL (leb (ls s))) = X at *
  generalize lvA (pclampL (leb (ls s))) = res at HRES ⊢
  have a1 := and_con (X 1) 67108611 _ (by omega) (by decide) (and_c1 (X 1) b1)
  have a2 := and_con (X 2) 67092735 _ (by omega) (by decide) (and_c2 (X 2) b2)
  have a3 := and_con (X 3) 66076671 _ (by omega) (by decide) (and_c3 (X 3) b3)
  have a4 := and_con (X 4) 1048575 _ (by omega) (by decide) (and_c4 (X 4))
  rw [show ((67108611 : Nat) : Int) = 67108611 from rfl] at a1
  rw [show ((67092735 : Nat) : Int) = 67092735 from rfl] at a2
  rw [show ((66076671 : Nat) : Int) = 66076671 from rfl] at a3
  rw [show ((1048575 : Nat) : Int) = 1048575 from rfl] at a4
  have R0 := (Rw.nil w).alloc #[.int .u64 0, .int .u64 0, .int .u64 0, .int .u64 0, .int .u64 0] 142
  simp only [List.nil_append] at R0
  have RR0 := Lib.hid R0
  have IX := Lib.hid (pinfoL X)
  have OX := Lib.hid (one_rowF X)
  have LX := Lib.hid (show (#[.int .u64 0, .int .u64 0, .int .u64 0, .int .u64 0, .int .u64 0] : Array Value).size = (rowF X).size from rfl)
  clear R0 hb hv hs HLA
  go_enter Tryz.func120, Tryz.ntmps120
  go_wp2_with fail
  refine (S.out _).mono ?_
  rintro e w1 ⟨rfl, hb⟩
  have R1 := (RR0.out.on hb).alloc #[.int .u64 0, .int .u64 0, .int .u64 0, .int .u64 0, .int .u64 0] 142
  simp only [List.cons_append, List.nil_append] at R1
  have RR1 := Lib.hid R1
  have RW := Lib.hid (R1.row 1)
  have R2 := R1.store 1 (rowF X)
  simp only [List.set_cons_zero, List.set_cons_succ] at R2
  have RR2 := Lib.hid R2
  clear hb RR0 R1 R2
  go_upto_region 2 with (with_reducible refine wpList_store_row rfl 142 (.tmp 3) (.tmp 5) rfl w1.heap.size (rowF X) rfl rfl 142 #[.int .u64 0, .int .u64 0, .int .u64 0, .int .u64 0, .int .u64 0] RW.out IX.out LX.out OX.out ?_)
  generalize World.setRow _ _ (rowF X) = w2 at RR2 ⊢
  generalize w1.heap.size = g at RR2 ⊢
  generalize hga : w.heap.size = ga at *
  have HGA := Lib.hid hga
  clear RW RR1 IX OX LX hga
  have k1 := RR2.out.cell 1 1 (rowF_get _ 1 (by decide))
  have f1 := RR2.out.free 1 1
  have p1 := RR2.out.put 1 1 (.int .u64 ((c1 (X 1) : Nat) : Int))
  rw [rowF_set _ _ _ (by decide)] at p1
  have P1 := Lib.hid p1
  have k2 := p1.cell 1 2 (rowF_get _ 2 (by decide))
  have f2 := p1.free 1 2
  have p2 := p1.put 1 2 (.int .u64 ((c2 (X 2) : Nat) : Int))
  rw [rowF_set _ _ _ (by decide)] at p2
  have k3 := p2.cell 1 3 (rowF_get _ 3 (by decide))
  have f3 := p2.free 1 3
  have p3 := p2.put 1 3 (.int .u64 ((c3 (X 3) : Nat) : Int))
  rw [rowF_set _ _ _ (by decide)] at p3
  have k4 := p3.cell 1 4 (rowF_get _ 4 (by decide))
  have f4 := p3.free 1 4
  have p4 := p3.put 1 4 (.int .u64 ((c4 (X 4) : Nat) : Int))
  rw [rowF_set _ _ _ (by decide), HRES.out] at p4
  have P4 := Lib.hid p4
  clear p1 p2 p3 p4 P1
  rw [show upd X 1 (c1 (X 1)) 2 = X 2 from rfl] at k2
  rw [show upd (upd X 1 (c1 (X 1))) 2 (c2 (X 2)) 3 = X 3 from rfl] at k3
  rw [show upd (upd (upd X 1 (c1 (X 1))) 2 (c2 (X 2))) 3 (c3 (X 3)) 4 = X 4 from rfl] at k4
  generalize c1 (X 1) = y1 at *
  generalize c2 (X 2) = y2 at *
  generalize c3 (X 3) = y3 at *
  generalize c4 (X 4) = y4 at *
  generalize X 1 = x1 at *
  generalize X 2 = x2 at *
  generalize X 3 = x3 at *
  generalize X 4 = x4 at *
  go_upto_region 6 with fail
  generalize World.setCell _ ⟨g, 4, none⟩ _ = w9 at P4 ⊢
  have IR := Lib.hid (show (Tryz.prog.info? 142).map (·.size) = some res.size from by rw [← HRES.out]; exact pinfoL _)
  have OR := Lib.hid (show res.all (·.oneCell') = true from by rw [← HRES.out]; exact one_rowF _)
  have LR := Lib.hid (show (#[.int .u64 0, .int .u64 0, .int .u64 0, .int .u64 0, .int .u64 0] : Array Value).size = res.size from by rw [← HRES.out]; rfl)
  have RWA := Lib.hid (P4.out.row 1)
  have RWB := Lib.hid (P4.out.row 0)
  clear k1 k2 k3 k4 f1 f2 f3 f4 a1 a2 a3 a4
  go_wp2_with (first
    | (with_reducible refine wpList_load_row rfl 142 (.tmp 3) rfl g rfl 142 res (0, 0) _ RWA.out Tryz.underlying142 rfl IR.out ?_)
    | (with_reducible refine wpList_store_row rfl 142 (.tmp 2) (.tmp 22) rfl ga res rfl rfl 142 #[.int .u64 0, .int .u64 0, .int .u64 0, .int .u64 0, .int .u64 0] RWB.out IR.out LR.out OR.out ?_))
  have R6 := P4.out.store 0 res
  exact bodyPost_ret (results_cell_row rfl _ _ ga 142 res (0, 0) _ rfl (R6.row 0) Tryz.underlying142 rfl IR.out) rfl ⟨rfl, R6.bel⟩
end Go.Proofs.YtfckjilhkdlpfaaGreatDoor

namespace Go.Proofs.YtfckjilhkdlpfaaGreatDoor
open Go.RowKit MS
theorem rwL2 (w : World) (r0 r1 : Array Value) : Rw w [(w.heap.size, r0, 142), (w.heap.size + 1, r1, 142)] ((w.alloc (.cells r0 142 (0, 0))).alloc (.cells r1 142 (0, 0))) := by
  have h := ((Rw.nil w).alloc r0 142).alloc r1 142
  simpa using h
theorem upd_upd (F : Nat → Nat) (j a b : Nat) : upd (upd F j a) j b = upd F j b := by
  funext i
  unfold upd
  split <;> rfl

set_option maxRecDepth 100000 in
set_option maxHeartbeats 1000000 in
theorem carry_row (X : Nat → Nat) (hX : ∀ j, X j < 4611686018427387904) (w : World) :
    Calls Tryz.prog 137 #[.agg (rowF X)] w fun e w' => e = .returned (.agg (rowF (upd (cvG X) 0 (cvG X 0 + 5 * cvN X 5)))) ∧ Below w.heap.size w w' := by
  have R0 := Lib.hid (rwL2 w (rowF X) #[.int .u64 0, .int .u64 0, .int .u64 0, .int .u64 0, .int .u64 0])
  have BX := Lib.hid hX
  have BC := Lib.hid (cvN_le X hX)
  have HV := Lib.hid (show rowF X = rowF X from rfl)
  generalize hrx : rowF X = rx at R0 ⊢
  have HRX := Lib.hid hrx
  clear hX hrx HV
  obtain ⟨rl, hrl⟩ : ∃ rl, rowF (upd (cvG X) 0 (cvG X 0 + 5 * cvN X 5)) = rl := ⟨_, rfl⟩
  rw [hrl]
  have HRL := Lib.hid hrl
  have IR := Lib.hid (show (Tryz.prog.info? 142).map (·.size) = some rl.size from by rw [← hrl]; exact pinfoL _)
  have OR := Lib.hid (show rl.all (·.oneCell') = true from by rw [← hrl]; exact one_rowF _)
  have LR := Lib.hid (show (#[.int .u64 0, .int .u64 0, .int .u64 0, .int .u64 0, .int .u64 0] : Array Value).size = rl.size from by rw [← hrl]; rfl)
  clear hrl
  go_enter Tryz.func137, Tryz.ntmps137
  go_upto_region 2 with fail
  generalize (w.alloc (.cells rx 142 (0, 0))).alloc (.cells #[.int .u64 0, .int .u64 0, .int .u64 0, .int .u64 0, .int .u64 0] 142 (0, 0)) = W at R0 ⊢
  have R1 := Lib.hid (show Rw w [(w.heap.size, rowF (prog X (cvG X) 0), 142), (w.heap.size + 1, #[.int .u64 0, .int .u64 0, .int .u64 0, .int .u64 0, .int .u64 0], 142)] W from by rw [prog_zero, HRX.out]; exact R0.out)
  clear R0
  generalize hA : w.heap.size = ga at *
  generalize hB : ga + 1 = gb at *
  have HA := Lib.hid hA
  clear hA hB
  go_wp2_with fail
  go_loopw [3, 5] (fun o i wr => ∃ j : Nat, j ≤ 5 ∧ i = .int .i64 j ∧ o = .int .u64 (cvN X j : Nat) ∧ Rw w [(ga, rowF (prog X (cvG X) j), 142), (gb, #[.int .u64 0, .int .u64 0, .int .u64 0, .int .u64 0, .int .u64 0], 142)] wr) (fun _ i _ => 5 - (intOf i).toNat)
  case atStart => exact ⟨0, by omega, rfl, rfl, R1.out⟩
  case round =>
    obtain ⟨j, hj, rfl, rfl, hr⟩ := hrel
    have R4 := Lib.hid hr
    clear hr R1
    by_cases hlt : j < 5
    · have j1 : (j : Int) < 5 := by omega
      have j0 : (0 : Int) ≤ j := by omega
      have cj := R4.out.cell 0 j (rowF_get _ j hlt)
      have fj := R4.out.free 0 j
      rw [prog_at] at cj
      have bj := BX.out j
      have lo := BC.out j
      have put := R4.out.put 0 j (.int .u64 ((X j + cvN X j : Nat) : Int))
      rw [rowF_set _ _ _ hlt] at put
      have ck := put.cell 0 j (rowF_get _ j hlt)
      have fk := put.free 0 j
      rw [show upd (prog X (cvG X) j) j (X j + cvN X j) j = X j + cvN X j from if_pos rfl] at ck
      have put2 := put.put 0 j (.int .u64 ((cvG X j : Nat) : Int))
      simp only [List.set_cons_zero] at put2
      rw [rowF_set _ _ _ hlt, upd_upd, prog_set] at put2
      have PUT := Lib.hid put2
      have hS : ∃ S, X j + cvN X j = S := ⟨_, rfl⟩
      obtain ⟨S, hS⟩ := hS
      have qs : (X j : Int) + (cvN X j : Int) = (S : Int) := by omega
      have hs : (S : Int) / 67108864 = ((cvN X (j + 1) : Nat) : Int) := by rw [show cvN X (j + 1) = (X j + cvN X j) / 67108864 from rfl]; omega
      have ha : bits .and .u64 (S : Int) 67108863 = ((cvG X j : Nat) : Int) := by
        rw [← hS, and26 (X j + cvN X j) (by omega)]
        rfl
      have bS : (S : Int) < 4611686155866341376 := by omega
      rw [hS] at ck fk PUT put
      have HLT := Lib.hid hlt
      generalize X j = xj at cj bj qs
      generalize cvN X j = oj at lo qs ⊢
      generalize cvG X j = gj at PUT ha
      generalize ho : cvN X (j + 1) = oj1 at hs
      have HO := Lib.hid ho
      have o0 : (0 : Int) ≤ (oj : Int) := by omega
      have x0 : (0 : Int) ≤ (xj : Int) := by omega
      clear hlt hj ho put put2 hS bj lo
      go_upto_region 6 with fail
      generalize wr.setCell ⟨ga, j, none⟩ (.int .u64 (S : Int)) = w6 at ck fk PUT ⊢
      clear cj fj qs
      go_wp2_with fail
      go_roundw
      case rel => exact ⟨j + 1, HLT.out, by go_num, by rw [HO.out], PUT.out⟩
      case measure => simp [intOf]; omega
    · have j1 : ¬ ((j : Int) < 5) := by omega
      have hj5 : j = 5 := by omega
      have r5 := R4.out
      rw [hj5, prog_end] at r5
      have c0 := r5.cell 0 0 (rowF_get _ 0 (by decide))
      have f0 := r5.free 0 0
      have put := r5.put 0 0 (.int .u64 ((cvG X 0 + 5 * cvN X 5 : Nat) : Int))
      rw [rowF_set _ _ _ (by decide)] at put
      simp only [List.set_cons_zero] at put
      have l5 := BC.out 5
      have g0 : cvG X 0 < 67108864 := Nat.mod_lt _ (by decide)
      rw [HRL.out] at put
      rw [hj5]
      have hq : ((cvG X 0 : Nat) : Int) + 5 * ((cvN X 5 : Nat) : Int) = ((cvG X 0 + 5 * cvN X 5 : Nat) : Int) := by omega
      have HQ := Lib.hid hq
      rw [← HQ.out] at put
      have PUT := Lib.hid put
      generalize cvG X 0 = y0 at *
      generalize cvN X 5 = o5 at *
      clear put r5 hj5 hlt hj R4 hq
      go_upto_region 10 with fail
      generalize World.setCell _ _ _ = w9 at PUT ⊢
      have RWA := Lib.hid (PUT.out.row 0)
      have RWB := Lib.hid (PUT.out.row 1)
      clear c0 f0
      go_wp2_with (first
        | (with_reducible refine wpList_load_row rfl 142 (.tmp 1) rfl ga rfl 142 rl (0, 0) _ RWA.out Tryz.underlying142 rfl IR.out ?_)
        | (with_reducible refine wpList_store_row rfl 142 (.tmp 2) (.tmp 30) rfl gb rl rfl rfl 142 #[.int .u64 0, .int .u64 0, .int .u64 0, .int .u64 0, .int .u64 0] RWB.out IR.out LR.out OR.out ?_))
      have R6 := PUT.out.store 1 rl
      exact bodyPost_ret (results_cell_row rfl _ _ gb 142 rl (0, 0) _ rfl (R6.row 1) Tryz.underlying142 rfl IR.out) rfl ⟨rfl, HA.out ▸ R6.bel⟩
theorem carry_any (x : L5) (hx : ∀ j, getL x j < 4611686018427387904) (w : World) :
    Calls Tryz.prog 137 #[.agg (lvA x)] w fun e w' => e = .returned (.agg (lvA (carL x))) ∧ Below w.heap.size w w' := by
  have h := carry_row (getL x) hx w
  rw [carL_row] at h
  exact h
end Go.Proofs.YtfckjilhkdlpfaaGreatDoor
