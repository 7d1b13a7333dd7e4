/-
  chacha.finish: the block of a state.
-/
import Derived.Test.YtkfacnegfkgcgaaIdx
namespace Go.Proofs.Ytkfacnegfkgcgaa
open Go.RowKit MS

/-- What is known of the world in the rounds: the state's row at B, the row that is turned at B + 2. -/
structure FSt (B : Nat) (w0 : World) (s t : Array W32) (w : World) : Prop where
  r0 : w.heap[B]? = some (.cells (rowW s) 53 (0, 0))
  r2 : w.heap[B + 2]? = some (.cells (rowW t) 53 (0, 0))
  r1 : w.heap[B + 1]? = some (.cells (Array.replicate 64 (.int .u8 0)) 56 (0, 0))
  bel : Below B w0 w

theorem FSt.step {B : Nat} {w0 w w' : World} {s t t' : Array W32} (h : FSt B w0 s t w) (hg : w.grownBy w' (some (B + 2))) (hr : w'.heap[B + 2]? = some (.cells (rowW t') 53 (0, 0))) : FSt B w0 s t' w' := by
  have l0 : B < w.heap.size := (Array.getElem?_eq_some_iff.1 h.r0).1
  have l1 : B + 1 < w.heap.size := (Array.getElem?_eq_some_iff.1 h.r1).1
  refine ⟨(hg.block B l0 (by simp)).trans h.r0, hr, (hg.block (B + 1) l1 (by simp)).trans h.r1, ?_⟩
  exact h.bel.grown hg (by omega) (by intro k e; cases e; omega)

theorem below_setRow {B g : Nat} {w0 w : World} (h : Below B w0 w) (hg : B ≤ g) (cs : Array Value) : Below B w0 (w.setRow g cs) :=
  ⟨h.os, h.tape, h.output, by simpa using h.size, fun k hk => by rw [setRow_other _ _ _ _ (by omega)]; exact h.block k hk⟩

theorem fst_start (w : World) (s : Array W32) :
    FSt w.heap.size w s s ((((w.alloc (.cells (rowW s) 53 (0, 0))).alloc (.cells (Array.replicate 64 (.int .u8 0)) 56 (0, 0))).alloc (.cells (Array.replicate 16 (.int .u32 0)) 53 (0, 0))).setRow (w.heap.size + 1 + 1) (rowW s)) := by
  have hw := Below.refl w.heap.size w
  generalize hX : Obj.cells (rowW s) 53 (0, 0) = X
  generalize hY : Obj.cells (Array.replicate 64 (.int .u8 0)) 56 (0, 0) = Y
  generalize hZ : Obj.cells (Array.replicate 16 (.int .u32 0)) 53 (0, 0) = Z
  have s1 : (w.alloc X).heap.size = w.heap.size + 1 := World.size_alloc _ _
  have s2 : ((w.alloc X).alloc Y).heap.size = w.heap.size + 1 + 1 := by rw [World.size_alloc, s1]
  have e0 : (w.alloc X).heap[w.heap.size]? = some X := (MapKept.heap_alloc w X).1
  have e1 : ((w.alloc X).alloc Y).heap[w.heap.size]? = some X := ((MapKept.heap_alloc (w.alloc X) Y).2 _ (by omega)).trans e0
  have e2 : (((w.alloc X).alloc Y).alloc Z).heap[w.heap.size]? = some X := ((MapKept.heap_alloc _ Z).2 _ (by omega)).trans e1
  have f1 : ((w.alloc X).alloc Y).heap[w.heap.size + 1]? = some Y := by rw [← s1]; exact (MapKept.heap_alloc _ Y).1
  have f2 : (((w.alloc X).alloc Y).alloc Z).heap[w.heap.size + 1]? = some Y := ((MapKept.heap_alloc _ Z).2 _ (by omega)).trans f1
  have g2 : (((w.alloc X).alloc Y).alloc Z).heap[w.heap.size + 1 + 1]? = some Z := by rw [← s2]; exact (MapKept.heap_alloc _ Z).1
  have b3 : Below w.heap.size w (((w.alloc X).alloc Y).alloc Z) := below_alloc (below_alloc (below_alloc hw _) _) _
  subst hX hY hZ
  exact ⟨by rw [setRow_other _ _ _ _ (by omega)]; exact e2, setRow_heap _ _ _ _ _ _ g2, by rw [setRow_other _ _ _ _ (by omega)]; exact f2, below_setRow b3 (by omega) _⟩

/-- The row of bytes behind i words. -/
def ob (x : W32) : Nat → Value
  | 0 => .int .u8 (wv x % 256)
  | 1 => .int .u8 (wv x / 256 % 256)
  | 2 => .int .u8 (wv x / 65536 % 256)
  | _ => .int .u8 (wv x / 16777216 % 256)
def zz (t s : Array W32) (i : Nat) : W32 := t.getD i 0 + s.getD i 0
def orow (z : Nat → W32) : Nat → Array Value
  | 0 => Array.replicate 64 (.int .u8 0)
  | i + 1 => ((((orow z i).setIfInBounds (4 * i) (ob (z i) 0)).setIfInBounds (4 * i + 1) (ob (z i) 1)).setIfInBounds (4 * i + 2) (ob (z i) 2)).setIfInBounds (4 * i + 3) (ob (z i) 3)
theorem size_orow (z : Nat → W32) (i : Nat) : (orow z i).size = 64 := by
  induction i with
  | zero => rfl
  | succ i ih => simp [orow, ih]

theorem all_orow (z : Nat → W32) (i : Nat) : (orow z i).all (·.oneCell') = true := by
  rw [Array.all_eq_true_iff_forall_mem]
  induction i with
  | zero => intro v hv; rw [orow, Array.mem_replicate] at hv; rw [hv.2]; rfl
  | succ i ih =>
    intro v hv
    have hs : ∀ (A : Array Value) (p : Nat) (u : Value), (∀ v ∈ A, v.oneCell' = true) → u.oneCell' = true → ∀ v ∈ A.setIfInBounds p u, v.oneCell' = true := by
      intro A p u hA hu v hv
      rcases Array.mem_or_eq_of_mem_setIfInBounds hv with h | h
      · exact hA v h
      · rw [h]; exact hu
    exact hs _ _ _ (hs _ _ _ (hs _ _ _ (hs _ _ _ ih rfl) rfl) rfl) rfl v hv

def blk (s : Array W32) : Array Value := orow (zz (drs 10 s) s) 16
structure OSt (B O : Nat) (w0 : World) (s : Array W32) (row : Array Value) (w : World) : Prop where
  lt : B + 2 < O
  r0 : w.heap[B]? = some (.cells (rowW s) 53 (0, 0))
  r1 : w.heap[B + 1]? = some (.cells (Array.replicate 64 (.int .u8 0)) 56 (0, 0))
  ro : w.heap[O]? = some (.cells row 56 (0, 0))
  sz : row.size = 64
  bel : Below B w0 w

theorem OSt.set {B O : Nat} {w0 w : World} {s : Array W32} {row : Array Value} (h : OSt B O w0 s row w) (p : Nat) (v : Value) : OSt B O w0 s (row.setIfInBounds p v) (w.setCell ⟨O, p, none⟩ v) := by
  have hl := h.lt
  refine ⟨hl, ?_, ?_, heap_setCell_same w O p row _ v h.ro, by simp [h.sz], h.bel.setCell (by simp; omega) _⟩
  · rw [heap_setCell_other _ _ _ _ (by simp; omega)]; exact h.r0
  · rw [heap_setCell_other _ _ _ _ (by simp; omega)]; exact h.r1
theorem OSt.cell {B O : Nat} {w0 w : World} {s : Array W32} {row : Array Value} (h : OSt B O w0 s row w) (p : Nat) (hp : p < 64) : ∃ u, w.cell? ⟨O, p, none⟩ = some u := by
  rw [cell_of_row w O p _ _ _ h.ro]
  have : p < row.size := by rw [h.sz]; exact hp
  exact ⟨row[p], by simp [this]⟩
theorem OSt.word {B O : Nat} {w0 w : World} {s : Array W32} {row : Array Value} (h : OSt B O w0 s row w) (i : Nat) (hi : i < s.size) : w.cell? ⟨B, i, none⟩ = some (.int .u32 (wv (s.getD i 0))) := by
  rw [cell_of_row w B i _ _ _ h.r0]
  simp [rowW, hi]

attribute [local go_sem] w_add
set_option maxRecDepth 100000 in
set_option maxHeartbeats 1000000 in
theorem finish_any (s : Array W32) (w : World) (hs : s.size = 16) :
    Calls Try.prog 36 #[.agg (rowW s)] w fun e w' => e = .returned (.agg (blk s)) ∧ Below w.heap.size w w' := by
  have HS := Lib.hid hs
  have hz : (rowW s).size = 16 := by rw [size_rowW, hs]
  have h1c : (rowW s).all (·.oneCell') = true := by simp [rowW, Value.oneCell']
  have hi : (Try.prog.info? 53).map (·.size) = some (rowW s).size := by rw [hz]; kernel_rfl
  have HL := Lib.hid (fun X => ((MapKept.heap_alloc (w.alloc (.cells (rowW s) 53 (0, 0))) X).2 w.heap.size (by simp)).trans (MapKept.heap_alloc w (.cells (rowW s) 53 (0, 0))).1)
  have HZ := Lib.hid hz
  have HI := Lib.hid hi
  have HO := Lib.hid h1c
  have HA := Lib.hid (fun (v : World) (X : Obj) => (MapKept.heap_alloc v X).1)
  have HE := Lib.hid (fun X Y => show ((w.alloc X).alloc Y).heap.size = w.heap.size + 1 + 1 by simp)
  have HF := Lib.hid (fst_start w s)
  clear hs hz h1c hi
  go_enter Try.func36, Try.ntmps36
  go_wp2_with (first
    | (with_reducible refine wpList_load_row rfl 53 (.tmp 1) rfl w.heap.size rfl 53 (rowW s) (0, 0) _ (HL.out _) Try.underlying53 rfl HI.out ?_)
    | (with_reducible refine wpList_store_row rfl 53 (.tmp 3) (.tmp 8) rfl (w.heap.size + 1 + 1) (rowW s) rfl rfl 53 (Array.replicate 16 (.int .u32 0)) ?hg HI.out ?hl HO.out ?_))
  case hg => exact (congrArg (fun n => (World.heap _)[n]?) (HE.out _ _).symm).trans (HA.out _ _)
  case hl => rw [HZ.out]; rfl
  generalize hW : World.setRow (World.alloc _ _) _ _ = w3
  have st : FSt w.heap.size w s (drs 0 s) w3 := by
    subst hW
    exact HF.out
  clear hW
  go_loopw [9] (fun i wr => ∃ k : Nat, k ≤ 10 ∧ i = .int .i64 k ∧ FSt w.heap.size w s (drs k s) wr) (fun i _ => 10 - (intOf i).toNat)
  case atStart => exact ⟨0, by omega, rfl, st⟩
  case round =>
    obtain ⟨k, hk, rfl, st0⟩ := hrel
    have ht := (size_drs k s).trans HS.out
    generalize hT : drs k s = t0 at st0 ht
    have HT := Lib.hid hT
    have HS0 := Lib.hid ht
    have HI0 := Lib.hid (show (Try.prog.info? 53).map (·.size) = some (rowW t0).size by rw [size_rowW, ht]; kernel_rfl)
    have HL0 := Lib.hid (fun X => ((MapKept.heap_alloc wr X).2 (w.heap.size + 1 + 1) (Array.getElem?_eq_some_iff.1 st0.r2).1).trans st0.r2)
    clear hT ht st
    go_wp2_with (with_reducible refine wpList_load_row rfl 53 (.tmp 3) rfl (w.heap.size + 1 + 1) rfl 53 (rowW t0) (0, 0) _ (HL0.out _) Try.underlying53 rfl HI0.out ?_)
    · have hk1 : k < 10 := by omega
      refine (turn16 (w.heap.size + 1 + 1) 53 0 4 8 12 t0 _ HS0.out (by decide) st0.r2).mono ?_
      rintro e w0 ⟨rfl, hg, hr⟩
      have st1 := st0.step hg hr
      have HS1 := Lib.hid ((size_qr t0 0 4 8 12).trans HS0.out)
      clear hg hr st0
      generalize hq0 : qr t0 0 4 8 12 = t1 at st1 HS1
      have HQ0 := Lib.hid hq0
      clear hq0
      go_wp2_with fail
      refine (turn16 (w.heap.size + 1 + 1) 53 1 5 9 13 t1 _ HS1.out (by decide) st1.r2).mono ?_
      rintro e w1 ⟨rfl, hg, hr⟩
      have st2 := st1.step hg hr
      have HS2 := Lib.hid ((size_qr t1 1 5 9 13).trans HS1.out)
      clear hg hr st1
      generalize hq1 : qr t1 1 5 9 13 = t2 at st2 HS2
      have HQ1 := Lib.hid hq1
      clear hq1
      go_wp2_with fail
      refine (turn16 (w.heap.size + 1 + 1) 53 2 6 10 14 t2 _ HS2.out (by decide) st2.r2).mono ?_
      rintro e w2 ⟨rfl, hg, hr⟩
      have st3 := st2.step hg hr
      have HS3 := Lib.hid ((size_qr t2 2 6 10 14).trans HS2.out)
      clear hg hr st2
      generalize hq2 : qr t2 2 6 10 14 = t3 at st3 HS3
      have HQ2 := Lib.hid hq2
      clear hq2
      go_wp2_with fail
      refine (turn16 (w.heap.size + 1 + 1) 53 3 7 11 15 t3 _ HS3.out (by decide) st3.r2).mono ?_
      rintro e w3 ⟨rfl, hg, hr⟩
      have st4 := st3.step hg hr
      have HS4 := Lib.hid ((size_qr t3 3 7 11 15).trans HS3.out)
      clear hg hr st3
      generalize hq3 : qr t3 3 7 11 15 = t4 at st4 HS4
      have HQ3 := Lib.hid hq3
      clear hq3
      go_wp2_with fail
      refine (turn16 (w.heap.size + 1 + 1) 53 0 5 10 15 t4 _ HS4.out (by decide) st4.r2).mono ?_
      rintro e w4 ⟨rfl, hg, hr⟩
      have st5 := st4.step hg hr
      have HS5 := Lib.hid ((size_qr t4 0 5 10 15).trans HS4.out)
      clear hg hr st4
      generalize hq4 : qr t4 0 5 10 15 = t5 at st5 HS5
      have HQ4 := Lib.hid hq4
      clear hq4
      go_wp2_with fail
      refine (turn16 (w.heap.size + 1 + 1) 53 1 6 11 12 t5 _ HS5.out (by decide) st5.r2).mono ?_
      rintro e w5 ⟨rfl, hg, hr⟩
      have st6 := st5.step hg hr
      have HS6 := Lib.hid ((size_qr t5 1 6 11 12).trans HS5.out)
      clear hg hr st5
      generalize hq5 : qr t5 1 6 11 12 = t6 at st6 HS6
      have HQ5 := Lib.hid hq5
      clear hq5
      go_wp2_with fail
      refine (turn16 (w.heap.size + 1 + 1) 53 2 7 8 13 t6 _ HS6.out (by decide) st6.r2).mono ?_
      rintro e w6 ⟨rfl, hg, hr⟩
      have st7 := st6.step hg hr
      have HS7 := Lib.hid ((size_qr t6 2 7 8 13).trans HS6.out)
      clear hg hr st6
      generalize hq6 : qr t6 2 7 8 13 = t7 at st7 HS7
      have HQ6 := Lib.hid hq6
      clear hq6
      go_wp2_with fail
      refine (turn16 (w.heap.size + 1 + 1) 53 3 4 9 14 t7 _ HS7.out (by decide) st7.r2).mono ?_
      rintro e w7 ⟨rfl, hg, hr⟩
      have st8 := st7.step hg hr
      have HS8 := Lib.hid ((size_qr t7 3 4 9 14).trans HS7.out)
      clear hg hr st7
      generalize hq7 : qr t7 3 4 9 14 = t8 at st8 HS8
      have HQ7 := Lib.hid hq7
      clear hq7
      go_wp2_with fail
      go_roundw
      case rel =>
        refine ⟨k + 1, by omega, by go_num, ?_⟩
        rw [drs, HT.out, dr, HQ0.out, HQ1.out, HQ2.out, HQ3.out, HQ4.out, HQ5.out, HQ6.out, HQ7.out]
        exact st8
      case measure => simp [intOf]; omega
    · have so : OSt w.heap.size wr.heap.size w s (orow (zz t0 s) 0) (wr.alloc (.cells (Array.replicate 64 (.int .u8 0)) 56 (0, 0))) := by
        have l2 : w.heap.size + 2 < wr.heap.size := (Array.getElem?_eq_some_iff.1 st0.r2).1
        have l1 : w.heap.size + 1 < wr.heap.size := by omega
        have l0 : w.heap.size < wr.heap.size := by omega
        exact ⟨l2, ((MapKept.heap_alloc wr _).2 _ l0).trans st0.r0, ((MapKept.heap_alloc wr _).2 _ l1).trans st0.r1, (MapKept.heap_alloc wr _).1, by simp [orow], below_alloc st0.bel _⟩
      generalize hO : wr.heap.size = O at so ⊢
      clear hO st0 HL0
      go_loopw [21] (fun i wr => ∃ i' : Nat, i' ≤ 16 ∧ i = .int .i64 i' ∧ OSt w.heap.size O w s (orow (zz t0 s) i') wr) (fun i _ => 16 - (intOf i).toNat)
      case atStart => exact ⟨0, by omega, rfl, so⟩
      case round =>
        obtain ⟨j, hj, rfl, so0⟩ := hrel
        clear so
        by_cases hlt : j < 16
        · have ji : (j : Int) < 16 := by omega
          have jn : (0 : Int) ≤ j := by omega
          have hc := so0.word j (by rw [HS.out]; exact hlt)
          have hix := fun w => run_index_row t0 HS0.out j hlt w
          generalize hsj : s.getD j 0 = sj at hc
          have HSJ := Lib.hid hsj
          clear hsj
          generalize htj : t0.getD j 0 = tj at hix
          have HTJ := Lib.hid htj
          clear htj
          go_wp2_with fail
          refine wp_loop_rounds 5 ?_
          obtain ⟨u, cu⟩ := so0.cell (4 * j) (by omega)
          have fu := frozen_of_row _ O (4 * j) _ _ so0.ro
          have jb0 : ((4 * j + 0 : Nat) : Int) < 64 := by omega
          rw [rounds_succ]
          go_wp2_with fail
          have so1 := so0.set (4 * j) (.int .u8 (wv (tj + sj) % 256))
          generalize World.setCell _ _ _ = wn0 at so1 ⊢
          clear cu fu jb0 so0
          obtain ⟨u, cu⟩ := so1.cell (4 * j + 1) (by omega)
          have fu := frozen_of_row _ O (4 * j + 1) _ _ so1.ro
          have jb1 : ((4 * j + 1 : Nat) : Int) < 64 := by omega
          rw [rounds_succ]
          go_wp2_with fail
          have so2 := so1.set (4 * j + 1) (.int .u8 (wv (tj + sj) / 256 % 256))
          generalize World.setCell _ _ _ = wn1 at so2 ⊢
          clear cu fu jb1 so1
          obtain ⟨u, cu⟩ := so2.cell (4 * j + 2) (by omega)
          have fu := frozen_of_row _ O (4 * j + 2) _ _ so2.ro
          have jb2 : ((4 * j + 2 : Nat) : Int) < 64 := by omega
          rw [rounds_succ]
          go_wp2_with fail
          have so3 := so2.set (4 * j + 2) (.int .u8 (wv (tj + sj) / 65536 % 256))
          generalize World.setCell _ _ _ = wn2 at so3 ⊢
          clear cu fu jb2 so2
          obtain ⟨u, cu⟩ := so3.cell (4 * j + 3) (by omega)
          have fu := frozen_of_row _ O (4 * j + 3) _ _ so3.ro
          have jb3 : ((4 * j + 3 : Nat) : Int) < 64 := by omega
          rw [rounds_succ]
          go_wp2_with fail
          have so4 := so3.set (4 * j + 3) (.int .u8 (wv (tj + sj) / 16777216 % 256))
          generalize World.setCell _ _ _ = wn3 at so4 ⊢
          clear cu fu jb3 so3
          rw [rounds_succ]
          go_wp2_with fail
          go_roundw
          case rel =>
            refine ⟨j + 1, by omega, by go_num, ?_⟩
            have hz : zz t0 s j = tj + sj := by rw [← HSJ.out, ← HTJ.out]; rfl
            rw [orow, hz]
            exact so4
          case measure => simp [intOf]; omega
        · have hj16 : j = 16 := by omega
          subst hj16
          have HSZ := size_orow (zz t0 s) 16
          have HOC : (orow (zz t0 s) 16).all (·.oneCell') = true := all_orow _ _
          have HR := so0.ro
          have HR1 := so0.r1
          generalize hrow : orow (zz t0 s) 16 = row at so0 HSZ HOC HR
          have HROW := Lib.hid hrow
          clear hrow
          have HSZ' := Lib.hid HSZ
          have HOC' := Lib.hid HOC
          have HR' := Lib.hid HR
          have HR1' := Lib.hid HR1
          have HI5 := Lib.hid (show (Try.prog.info? 56).map (·.size) = some row.size by rw [HSZ]; kernel_rfl)
          have HSO := Lib.hid so0
          have HL5 := Lib.hid (show (Array.replicate 64 (Value.int .u8 0)).size = row.size by rw [HSZ]; rfl)
          clear HSZ HOC HR HR1 so0
          go_wp2_with (first
            | (with_reducible refine wpList_load_row rfl 56 (.tmp 4) rfl O rfl 56 row (0, 0) _ HR'.out Try.underlying56 rfl HI5.out ?_)
            | (with_reducible refine wpList_store_row rfl 56 (.tmp 2) (.tmp 45) rfl (w.heap.size + 1) row rfl rfl 56 (Array.replicate 64 (.int .u8 0)) HR1'.out HI5.out HL5.out HOC'.out ?_))
          have hk10 : k = 10 := by omega
          have hres : row = blk s := by rw [← HROW.out, ← HT.out, hk10]; rfl
          have hO := HSO.out.lt
          refine bodyPost_ret (results_cell_row rfl _ _ (w.heap.size + 1) 56 row (0, 0) _ rfl (setRow_heap _ _ _ _ _ _ HR1'.out) Try.underlying56 rfl HI5.out) rfl ⟨by rw [hres], ?_⟩
          exact below_setRow HSO.out.bel (by omega) _
end Go.Proofs.Ytkfacnegfkgcgaa
