/-
  chacha.begin: the state of a block.
-/
import Derived.Test.YtkfacnegfkgcgaaFill
namespace Go.Proofs.Ytkfacnegfkgcgaa
open Go.RowKit MS

def fillW (s : Array W32) (o : Nat) (t : ByteArray) : Nat → Array W32
  | 0 => s
  | i + 1 => (fillW s o t i).setIfInBounds (o + i) (leW t i)
theorem fillRow_rowW (s : Array W32) (o : Nat) (t : ByteArray) (n : Nat) : fillRow (rowW s) o t n = rowW (fillW s o t n) := by
  induction n with
  | zero => rfl
  | succ n ih => rw [fillRow, ih, rowW_set]; rfl
theorem size_fillW (s : Array W32) (o : Nat) (t : ByteArray) (n : Nat) : (fillW s o t n).size = s.size := by
  induction n with
  | zero => rfl
  | succ n ih => simp [fillW, ih]
def cst : ByteArray := ByteArray.mk #[101, 120, 112, 97, 110, 100, 32, 51, 50, 45, 98, 121, 116, 101, 32, 107]
def iw (k n : ByteArray) (c : W32) : Array W32 := fillW ((fillW (fillW (Array.replicate 16 0) 0 cst 4) 4 k 8).setIfInBounds 12 c) 13 n 3
theorem size_iw (k n : ByteArray) (c : W32) : (iw k n c).size = 16 := by simp [iw, size_fillW]

structure BSt (B : Nat) (w0 : World) (t : Array W32) (w : World) : Prop where
  r0 : w.heap[B]? = some (.cells (rowW (Array.replicate 16 0)) 53 (0, 0))
  r1 : w.heap[B + 1]? = some (.cells (rowW t) 53 (0, 0))
  bel : Below B w0 w
theorem BSt.step {B : Nat} {w0 w w' : World} {t t' : Array W32} (h : BSt B w0 t w) (hg : w.grownBy w' (some (B + 1))) (hr : w'.heap[B + 1]? = some (.cells (rowW t') 53 (0, 0))) : BSt B w0 t' w' := by
  have l0 : B < w.heap.size := (Array.getElem?_eq_some_iff.1 h.r0).1
  exact ⟨(hg.block B l0 (by simp)).trans h.r0, hr, h.bel.grown hg (by omega) (by intro k e; cases e; omega)⟩
theorem bst_start (w : World) : BSt w.heap.size w (Array.replicate 16 0) ((w.alloc (.cells (rowW (Array.replicate 16 0)) 53 (0, 0))).alloc (.cells (rowW (Array.replicate 16 0)) 53 (0, 0))) := by
  have hw := Below.refl w.heap.size w
  generalize hX : Obj.cells (rowW (Array.replicate 16 0)) 53 (0, 0) = X
  have s1 : (w.alloc X).heap.size = w.heap.size + 1 := World.size_alloc _ _
  have e1 : ((w.alloc X).alloc X).heap[w.heap.size]? = some X := ((MapKept.heap_alloc (w.alloc X) X).2 _ (by omega)).trans (MapKept.heap_alloc w X).1
  have f1 : ((w.alloc X).alloc X).heap[w.heap.size + 1]? = some X := by rw [← s1]; exact (MapKept.heap_alloc _ X).1
  subst hX
  exact ⟨e1, f1, below_alloc (below_alloc hw _) _⟩
theorem z16 : rowW (Array.replicate 16 0) = #[.int .u32 0, .int .u32 0, .int .u32 0, .int .u32 0, .int .u32 0, .int .u32 0, .int .u32 0, .int .u32 0, .int .u32 0, .int .u32 0, .int .u32 0, .int .u32 0, .int .u32 0, .int .u32 0, .int .u32 0, .int .u32 0] := by
  unfold rowW
  rw [Array.map_replicate]
  rfl
theorem bst_start' (w : World) : BSt w.heap.size w (Array.replicate 16 0) ((w.alloc (.cells #[.int .u32 0, .int .u32 0, .int .u32 0, .int .u32 0, .int .u32 0, .int .u32 0, .int .u32 0, .int .u32 0, .int .u32 0, .int .u32 0, .int .u32 0, .int .u32 0, .int .u32 0, .int .u32 0, .int .u32 0, .int .u32 0] 53 (0, 0))).alloc (.cells #[.int .u32 0, .int .u32 0, .int .u32 0, .int .u32 0, .int .u32 0, .int .u32 0, .int .u32 0, .int .u32 0, .int .u32 0, .int .u32 0, .int .u32 0, .int .u32 0, .int .u32 0, .int .u32 0, .int .u32 0, .int .u32 0] 53 (0, 0))) := by
  rw [← z16]
  exact bst_start w
theorem results_cell_tmp {P : Program} {fn : Func} {p q : Tmp} {ty : TypeId} (h : fn.results = #[.cell p ty, .tmp q]) (tmps : Array Value) (w : World) (g : Nat) (t : TypeId) (cs : Array Value) (fr : Nat × Nat) (d : TypeDesc)
    (hp : tmps.getD p undef = .pointer (some ⟨g, 0, none⟩)) (v : Value) (hv : tmps.getD q undef = v) (hg : w.heap[g]? = some (.cells cs t fr))
    (hu : P.underlying ty = some d) (hd : (match d with | .struct _ | .array _ _ => true | _ => false) = true) (hi : (P.info? ty).map (·.size) = some cs.size) :
    (results fn tmps).run P w = .ok (.tuple #[.agg cs, v]) w := by
  have hp' : tmps[p]?.getD undef = .pointer (some ⟨g, 0, none⟩) := by simpa using hp
  have hv' : tmps[q]?.getD undef = v := by simpa using hv
  simp [results, h, hp', hv', asAddr, run_loadVar_row w g t ty cs fr d hg hu hd hi]

set_option maxRecDepth 100000 in
set_option maxHeartbeats 1000000 in
theorem begin_yes (k n : ByteArray) (c : W32) (w : World) (hk : k.size = 32) (hn : n.size = 12) :
    Calls Try.prog 35 #[.string k, .string n, .int .u32 (wv c)] w fun e w' => e = .returned (.tuple #[.agg (rowW (iw k n c)), .bool true]) ∧ Below w.heap.size w w' := by
  have gk : ((k.size : Nat) : Int) = 32 := by omega
  have gn : ((n.size : Nat) : Int) = 12 := by omega
  have HK := Lib.hid hk
  have HN := Lib.hid hn
  have HB := Lib.hid (bst_start' w)
  clear hk hn
  go_enter Try.func35, Try.ntmps35
  go_wp2_with fail
  have st0 := HB.out
  generalize World.alloc _ _ = w0 at st0 ⊢
  change Calls _ _ #[_, .string cst] _ _
  refine (fill_any (w.heap.size + 1) 0 4 16 53 (rowW (Array.replicate 16 0)) cst _ (by simp [rowW]) (by decide) (by decide) st0.r1).mono ?_
  rintro e w1 ⟨rfl, hg, hr⟩
  rw [fillRow_rowW] at hr
  have st1 := st0.step hg hr
  have z1 := size_fillW (Array.replicate 16 0) 0 cst 4
  generalize hq1 : fillW (Array.replicate 16 0) 0 cst 4 = t1 at st1 z1
  have H1 := Lib.hid hq1
  have Z1 := Lib.hid (show t1.size = 16 by rw [z1]; rfl)
  clear hg hr hq1 z1 st0
  go_wp2_with fail
  refine (fill_any (w.heap.size + 1) 4 8 12 53 (rowW t1) k _ (by rw [size_rowW, Z1.out]; decide) (by rw [HK.out]; decide) (by decide) st1.r1).mono ?_
  rintro e w2 ⟨rfl, hg, hr⟩
  rw [fillRow_rowW] at hr
  have st2 := st1.step hg hr
  have z2 := size_fillW t1 4 k 8
  generalize hq2 : fillW t1 4 k 8 = t2 at st2 z2
  have H2 := Lib.hid hq2
  have Z2 := Lib.hid (show t2.size = 16 by rw [z2, Z1.out])
  clear hg hr hq2 z2 st1
  have hj : 12 < (rowW t2).size := by rw [size_rowW, Z2.out]; decide
  have hc : w2.cell? ⟨w.heap.size + 1, 12, none⟩ = some ((rowW t2)[12]'hj) := by rw [cell_of_row w2 (w.heap.size + 1) 12 _ _ _ st2.r1]; simp [hj]
  have hf := frozen_of_row w2 (w.heap.size + 1) 12 _ _ st2.r1
  generalize (rowW t2)[12]'hj = u at hc
  clear hj
  have ST2 := Lib.hid st2
  clear st2
  go_wp2_with fail
  have hr3 := row_set ST2.out.r1 0 12 (.int .u32 (wv c))
  have hg3 := grown_set (World.grownBy.refl w2 (some (w.heap.size + 1))) 0 12 (.int .u32 (wv c))
  rw [rowW_set] at hr3
  have st3 := ST2.out.step hg3 hr3
  have Z3 := Lib.hid (show (t2.setIfInBounds 12 c).size = 16 by simp [Z2.out])
  refine (fill_any (w.heap.size + 1) 13 3 3 53 (rowW (t2.setIfInBounds 12 c)) n _ (by rw [size_rowW, Z3.out]; decide) (by rw [HN.out]; decide) (by decide) st3.r1).mono ?_
  rintro e w4 ⟨rfl, hg, hr⟩
  rw [fillRow_rowW] at hr
  have st4 := st3.step hg hr
  have hiw : fillW (t2.setIfInBounds 12 c) 13 n 3 = iw k n c := by rw [iw, H1.out, H2.out]
  rw [hiw] at st4
  have hz := size_iw k n c
  generalize hI : iw k n c = I at st4 hz
  have HIW := Lib.hid hI
  clear hg hr hiw st3 hr3 hg3 hI hc hf
  have HI := Lib.hid (show (Try.prog.info? 53).map (·.size) = some (rowW I).size by rw [size_rowW, hz]; kernel_rfl)
  have HO := Lib.hid (show (rowW I).all (·.oneCell') = true by simp [rowW, Value.oneCell'])
  have HL := Lib.hid (show (rowW (Array.replicate 16 0)).size = (rowW I).size by rw [size_rowW, size_rowW, hz]; rfl)
  have HR0 := Lib.hid st4.r0
  have HR1 := Lib.hid st4.r1
  have HBL := Lib.hid st4.bel
  clear st4 hz
  go_wp2_with (first
    | (with_reducible refine wpList_load_row rfl 53 (.tmp 8) rfl (w.heap.size + 1) rfl 53 (rowW I) (0, 0) _ HR1.out Try.underlying53 rfl HI.out ?_)
    | (with_reducible refine wpList_store_row rfl 53 (.tmp 6) (.tmp 28) rfl w.heap.size (rowW I) rfl rfl 53 (rowW (Array.replicate 16 0)) HR0.out HI.out HL.out HO.out ?_))
  refine bodyPost_ret (results_cell_tmp rfl _ _ w.heap.size 53 (rowW I) (0, 0) _ rfl _ rfl (setRow_heap _ _ _ _ _ _ HR0.out) Try.underlying53 rfl HI.out) rfl ⟨by rw [HIW.out]; rfl, ?_⟩
  exact below_setRow HBL.out (Nat.le_refl _) _
end Go.Proofs.Ytkfacnegfkgcgaa
