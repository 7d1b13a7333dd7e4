/-
  sha.Block: the walk.
-/
import Derived.Test.YtkbfflnjbafamaaDoorShaS
namespace Go.Proofs.YtkbfflnjbafamaaDoor
open Go.RowKit MS

def KT : Array W32 := #[1116352408#32, 1899447441#32, 3049323471#32, 3921009573#32, 961987163#32, 1508970993#32, 2453635748#32, 2870763221#32, 3624381080#32, 310598401#32, 607225278#32, 1426881987#32, 1925078388#32, 2162078206#32, 2614888103#32, 3248222580#32, 3835390401#32, 4022224774#32, 264347078#32, 604807628#32, 770255983#32, 1249150122#32, 1555081692#32, 1996064986#32, 2554220882#32, 2821834349#32, 2952996808#32, 3210313671#32, 3336571891#32, 3584528711#32, 113926993#32, 338241895#32, 666307205#32, 773529912#32, 1294757372#32, 1396182291#32, 1695183700#32, 1986661051#32, 2177026350#32, 2456956037#32, 2730485921#32, 2820302411#32, 3259730800#32, 3345764771#32, 3516065817#32, 3600352804#32, 4094571909#32, 275423344#32, 430227734#32, 506948616#32, 659060556#32, 883997877#32, 958139571#32, 1322822218#32, 1537002063#32, 1747873779#32, 1955562222#32, 2024104815#32, 2227730452#32, 2361852424#32, 2428436474#32, 2756734187#32, 3204031479#32, 3329325298#32]
def IV : Array W32 := #[1779033703#32, 3144134277#32, 1013904242#32, 2773480762#32, 1359893119#32, 2600822924#32, 528734635#32, 1541459225#32]
structure Glob (w : World) : Prop where
  g0 : ∃ t fr, w.heap[0]? = some (.cells (rowW IV) t fr)
  g1 : ∃ t fr, w.heap[1]? = some (.cells (rowW KT) t fr)
theorem Glob.lt {w : World} (h : Glob w) : 1 < w.heap.size := by
  obtain ⟨t, fr, h⟩ := h.g1
  exact (Array.getElem?_eq_some_iff.1 h).1
theorem Glob.below {B : Nat} {w w' : World} (h : Glob w) (hB : 2 ≤ B) (hb : Below B w w') : Glob w' := by
  obtain ⟨t, fr, h0⟩ := h.g0
  obtain ⟨t1, fr1, h1⟩ := h.g1
  exact ⟨⟨t, fr, (hb.block 0 (by omega)).trans h0⟩, ⟨t1, fr1, (hb.block 1 (by omega)).trans h1⟩⟩
theorem Glob.on {w w' : World} (h : Glob w) (hb : Below w.heap.size w w') : Glob w' := h.below h.lt hb
theorem Glob.k {w : World} (h : Glob w) (i : Nat) (hi : i < 64) : w.cell? ⟨1, i, none⟩ = some (.int .u32 (wv (KT.getD i 0))) := by
  obtain ⟨t, fr, h1⟩ := h.g1
  rw [cell_of_row w 1 i _ _ _ h1, rowW_get KT i hi]

structure V8 where
  a : W32
  b : W32
  c : W32
  d : W32
  e : W32
  f : W32
  g : W32
  h : W32
def S1 (e : W32) : W32 := e.rotateLeft 26 ^^^ e.rotateLeft 21 ^^^ e.rotateLeft 7
def S0 (a : W32) : W32 := a.rotateLeft 30 ^^^ a.rotateLeft 19 ^^^ a.rotateLeft 10
def chs (e f g : W32) : W32 := (e &&& f) ^^^ (~~~e &&& g)
def mj (a b c : W32) : W32 := (a &&& b) ^^^ (a &&& c) ^^^ (b &&& c)
def t1 (k x : W32) (v : V8) : W32 := v.h + S1 v.e + chs v.e v.f v.g + k + x
def t2 (v : V8) : W32 := S0 v.a + mj v.a v.b v.c
def rd (k x : W32) (v : V8) : V8 := ⟨t1 k x v + t2 v, v.a, v.b, v.c, v.d + t1 k x v, v.e, v.f, v.g⟩
def rds (W : Array W32) (v : V8) : Nat → V8
  | 0 => v
  | i + 1 => rd (KT.getD i 0) (W.getD i 0) (rds W v i)
def ofA (s : Array W32) : V8 := ⟨s.getD 0 0, s.getD 1 0, s.getD 2 0, s.getD 3 0, s.getD 4 0, s.getD 5 0, s.getD 6 0, s.getD 7 0⟩
def addA (s : Array W32) (v : V8) : Array W32 := #[s.getD 0 0 + v.a, s.getD 1 0 + v.b, s.getD 2 0 + v.c, s.getD 3 0 + v.d, s.getD 4 0 + v.e, s.getD 5 0 + v.f, s.getD 6 0 + v.g, s.getD 7 0 + v.h]
def blk8 (s : Array W32) (b : Nat → W32) : Array W32 := addA s (rds (sch b) (ofA s) 64)
theorem size_blk8 (s : Array W32) (b : Nat → W32) : (blk8 s b).size = 8 := rfl
theorem w_not (x : W32) : bits .xor .u32 4294967295 (wv x) = wv (~~~x) := by
  have h := w_xor (BitVec.allOnes 32) x
  rw [show wv (BitVec.allOnes 32) = 4294967295 from rfl] at h
  rw [h]
  rw [BitVec.allOnes_xor]
theorem unary_not_w (x : W32) : Op.unary .xor (.int .u32 (wv x)) = pure (.int .u32 (wv (~~~x))) := by
  rw [unary_xor, show (if IntKind.u32.signed then (-1 : Int) else IntKind.u32.max) = 4294967295 from rfl, intBits_xor, w_not]

structure PSt (w0 : World) (st : Array W32) (w : World) : Prop where
  r0 : w.heap[w0.heap.size]? = some (.cells (rowW st) 26 (0, 0))
  r1 : w.heap[w0.heap.size + 1]? = some (.cells (#[.int .u32 0, .int .u32 0, .int .u32 0, .int .u32 0, .int .u32 0, .int .u32 0, .int .u32 0, .int .u32 0] : Array Value) 26 (0, 0))
  bel : Below w0.heap.size w0 w
theorem PSt.on {w0 w w' : World} {st : Array W32} (h : PSt w0 st w) (hb : Below w.heap.size w w') : PSt w0 st w' :=
  ⟨(hb.block _ (Array.getElem?_eq_some_iff.1 h.r0).1).trans h.r0, (hb.block _ (Array.getElem?_eq_some_iff.1 h.r1).1).trans h.r1, h.bel.trans (hb.mono h.bel.size)⟩
theorem PSt.cell {w0 w : World} {st : Array W32} (h : PSt w0 st w) (hs : st.size = 8) (i : Nat) (hi : i < 8) : w.cell? ⟨w0.heap.size, i, none⟩ = some (.int .u32 (wv (st.getD i 0))) := by
  rw [cell_of_row w _ i _ _ _ h.r0, rowW_get st i (by omega)]
theorem PSt.drewN {w0 w : World} {st : Array W32} (h : PSt w0 st w) (k : Nat) : PSt w0 st (w.drewN k) := ⟨h.r0, h.r1, below_drewN h.bel k⟩
theorem Glob.drewN {w : World} (h : Glob w) (k : Nat) : Glob (w.drewN k) := ⟨h.g0, h.g1⟩
theorem pst_start (w : World) (st : Array W32) : PSt w st ((w.alloc (.cells (rowW st) 26 (0, 0))).alloc (.cells (#[.int .u32 0, .int .u32 0, .int .u32 0, .int .u32 0, .int .u32 0, .int .u32 0, .int .u32 0, .int .u32 0] : Array Value) 26 (0, 0))) := by
  generalize hX : Obj.cells (rowW st) 26 (0, 0) = X
  generalize hY : Obj.cells (#[.int .u32 0, .int .u32 0, .int .u32 0, .int .u32 0, .int .u32 0, .int .u32 0, .int .u32 0, .int .u32 0] : Array Value) 26 (0, 0) = Y
  have hw := Below.refl w.heap.size w
  have s1 : (w.alloc X).heap.size = w.heap.size + 1 := World.size_alloc _ _
  have e1 : ((w.alloc X).alloc Y).heap[w.heap.size]? = some X := ((MapKept.heap_alloc (w.alloc X) Y).2 _ (by omega)).trans (MapKept.heap_alloc w X).1
  have f1 : ((w.alloc X).alloc Y).heap[w.heap.size + 1]? = some Y := by rw [← s1]; exact (MapKept.heap_alloc _ Y).1
  subst hX hY
  exact ⟨e1, f1, below_alloc (below_alloc hw _) _⟩

set_option maxRecDepth 100000 in
set_option maxHeartbeats 300000 in
theorem sblock_no (st : Array W32) (s : ByteArray) (w : World) (hst : st.size = 8) (hs : s.size ≠ 64) :
    Calls Tryd.prog 19 #[.agg (rowW st), .string s] w fun e w' => e = .returned (.agg (rowW st)) ∧ Below w.heap.size w w' := by
  have hsi : ((s.size : Int) != 64) = true := by simp; omega
  have hi : (Tryd.prog.info? 26).map (·.size) = some (rowW st).size := by rw [size_rowW, hst]; kernel_rfl
  have hl : (#[.int .u32 0, .int .u32 0, .int .u32 0, .int .u32 0, .int .u32 0, .int .u32 0, .int .u32 0, .int .u32 0] : Array Value).size = (rowW st).size := by rw [size_rowW, hst]; rfl
  have HP := Lib.hid (pst_start w st)
  have HI := Lib.hid hi
  have HL := Lib.hid hl
  clear hst hs hi hl
  go_enter Tryd.func19, Tryd.ntmps19
  go_wp2_with (first
    | (with_reducible refine wpList_load_row rfl 26 (.tmp 2) rfl w.heap.size rfl 26 (rowW st) (0, 0) _ HP.out.r0 Tryd.underlying26 rfl HI.out ?_)
    | (with_reducible refine wpList_store_row rfl 26 (.tmp 4) (.tmp 25) rfl (w.heap.size + 1) (rowW st) rfl rfl 26 (#[.int .u32 0, .int .u32 0, .int .u32 0, .int .u32 0, .int .u32 0, .int .u32 0, .int .u32 0, .int .u32 0] : Array Value) HP.out.r1 HI.out HL.out (one_rowW st) ?_))
  refine bodyPost_ret (results_cell_row rfl _ _ (w.heap.size + 1) 26 (rowW st) (0, 0) _ rfl (setRow_heap _ _ _ _ _ _ HP.out.r1) Tryd.underlying26 rfl HI.out) rfl ⟨rfl, ?_⟩
  exact below_setRow HP.out.bel (by omega) _

attribute [local go_sem] w_add w_xor w_and
attribute [local go_sem high] unary_not_w
set_option maxRecDepth 100000 in
set_option maxHeartbeats 300000 in
theorem sblock_yes (st : Array W32) (s : ByteArray) (w : World) (hst : st.size = 8) (hs : s.size = 64) (G : Glob w) :
    Calls Tryd.prog 19 #[.agg (rowW st), .string s] w fun e w' => e = .returned (.agg (rowW (blk8 st (be s)))) ∧ Below w.heap.size w w' := by
  have hsi : ((s.size : Int) != 64) = false := by simp; omega
  have hsz := size_sch (be s)
  have H := Lib.hid (fun w => schedule_any s w hs)
  generalize hW : sch (be s) = W at H hsz
  have HW := Lib.hid hW
  have HSZ := Lib.hid hsz
  have HST := Lib.hid hst
  have HP := Lib.hid (pst_start w st)
  have HG := Lib.hid G
  have HI := Lib.hid (show (Tryd.prog.info? 48).map (·.size) = some (rowW W).size by rw [size_rowW, hsz]; kernel_rfl)
  have HL := Lib.hid (show (Array.replicate 64 (Value.int .u32 0)).size = (rowW W).size by rw [size_rowW, hsz]; rfl)
  clear hst hs hsz hW G
  go_enter Tryd.func19, Tryd.ntmps19
  go_wp2_with fail
  refine (H.out _).mono ?_
  rintro e w3 ⟨rfl, hb3⟩
  have HP3 := Lib.hid (HP.out.on hb3)
  have h5 := (MapKept.heap_alloc w3 (.cells (Array.replicate 64 (.int .u32 0)) 48 (0, 0))).1
  have H5 := Lib.hid h5
  clear hb3 h5
  go_wp2_with (with_reducible refine wpList_store_row rfl 48 (.tmp 5) (.tmp 27) rfl w3.heap.size (rowW W) rfl rfl 48 (Array.replicate 64 (.int .u32 0)) ?hg HI.out HL.out (one_rowW W) ?_)
  case hg => exact H5.out
  have hb5 : Below w3.heap.size w3 ((w3.alloc (.cells (Array.replicate 64 (.int .u32 0)) 48 (0, 0))).setRow w3.heap.size (rowW W)) := below_setRow (below_alloc (Below.refl _ _) _) (Nat.le_refl _) _
  have hp5 := HP3.out.on hb5
  have hr5 := setRow_heap _ _ _ (rowW W) _ _ H5.out
  have hg5 := HG.out.on hp5.bel
  generalize hw5 : World.setRow (World.alloc w3 _) _ _ = w5
  have hw5' : World.setRow (World.alloc w3 (.cells (Array.replicate 64 (.int .u32 0)) 48 (0, 0))) w3.heap.size (rowW W) = w5 := hw5
  rw [hw5'] at hp5 hr5 hg5
  clear hb5 hw5 hw5' H5 HP3 HP HL H
  generalize w3.heap.size = E at hr5 ⊢
  have HP5 := Lib.hid hp5
  have HR5 := Lib.hid hr5
  have HG5 := Lib.hid hg5
  have c0 := hp5.cell HST.out 0 (by decide)
  have c1 := hp5.cell HST.out 1 (by decide)
  have c2 := hp5.cell HST.out 2 (by decide)
  have c3 := hp5.cell HST.out 3 (by decide)
  have c4 := hp5.cell HST.out 4 (by decide)
  have c5 := hp5.cell HST.out 5 (by decide)
  have c6 := hp5.cell HST.out 6 (by decide)
  have c7 := hp5.cell HST.out 7 (by decide)
  have HCELL := Lib.hid (fun (w' : World) (h : PSt w st w') => (⟨h.cell HST.out 0 (by decide), h.cell HST.out 1 (by decide), h.cell HST.out 2 (by decide), h.cell HST.out 3 (by decide), h.cell HST.out 4 (by decide), h.cell HST.out 5 (by decide), h.cell HST.out 6 (by decide), h.cell HST.out 7 (by decide)⟩ : _ ∧ _ ∧ _ ∧ _ ∧ _ ∧ _ ∧ _ ∧ _))
  clear hp5 hr5 hg5
  generalize ha : st.getD 0 0 = ia at c0 HCELL
  generalize hb : st.getD 1 0 = ib at c1 HCELL
  generalize hc : st.getD 2 0 = ic at c2 HCELL
  generalize hd : st.getD 3 0 = idd at c3 HCELL
  generalize he : st.getD 4 0 = ie at c4 HCELL
  generalize hf : st.getD 5 0 = iff at c5 HCELL
  generalize hg : st.getD 6 0 = ig at c6 HCELL
  generalize hh : st.getD 7 0 = ih at c7 HCELL
  have HV := Lib.hid (show ofA st = ⟨ia, ib, ic, idd, ie, iff, ig, ih⟩ by rw [ofA, ha, hb, hc, hd, he, hf, hg, hh])
  have HA := Lib.hid (fun v => show addA st v = #[ia + v.a, ib + v.b, ic + v.c, idd + v.d, ie + v.e, iff + v.f, ig + v.g, ih + v.h] by rw [addA, ha, hb, hc, hd, he, hf, hg, hh])
  clear ha hb hc hd he hf hg hh
  go_quiet (fail)
  go_wp2_with fail
  go_quiet (fail)
  clear c0 c1 c2 c3 c4 c5 c6 c7
  generalize hw6 : World.drewN (World.drewN w5 _) _ = w6
  have hp6 : PSt w st w6 := by rw [← hw6]; exact (HP5.out.drewN _).drewN _
  have hg6 : Glob w6 := by rw [← hw6]; exact (HG5.out.drewN _).drewN _
  have hr6 : w6.heap[E]? = some (.cells (rowW W) 48 (0, 0)) := by rw [← hw6]; exact HR5.out
  have HP6 := Lib.hid hp6
  have HG6 := Lib.hid hg6
  have HR6 := Lib.hid hr6
  clear hw6 hp6 hg6 hr6 HP5 HG5 HR5
  go_wp2_with (with_reducible refine wpList_load_row rfl 48 (.tmp 5) rfl E rfl 48 (rowW W) (0, 0) _ ?hgl Tryd.underlying48 rfl HI.out ?_)
  case hgl => exact HR6.out
  go_loopw [6, 7, 8, 9, 10, 11, 12, 13, 45] (fun va vb vc vd ve vf vg vh i wr => ∃ (j : Nat) (a b c d e f g h : W32), j ≤ 64 ∧ i = .int .i64 j ∧ rds W ⟨ia, ib, ic, idd, ie, iff, ig, ih⟩ j = ⟨a, b, c, d, e, f, g, h⟩ ∧ va = .int .u32 (wv a) ∧ vb = .int .u32 (wv b) ∧ vc = .int .u32 (wv c) ∧ vd = .int .u32 (wv d) ∧ ve = .int .u32 (wv e) ∧ vf = .int .u32 (wv f) ∧ vg = .int .u32 (wv g) ∧ vh = .int .u32 (wv h) ∧ wr = w6) (fun _ _ _ _ _ _ _ _ i _ => 64 - (intOf i).toNat)
  case atStart => exact ⟨0, ia, ib, ic, idd, ie, iff, ig, ih, by omega, rfl, rfl, rfl, rfl, rfl, rfl, rfl, rfl, rfl, rfl, rfl⟩
  case round =>
    obtain ⟨j, a, b, c, d, e, f, g, h, hj, rfl, hrd, rfl, rfl, rfl, rfl, rfl, rfl, rfl, rfl, hwr⟩ := hrel
    subst hwr
    have HRD := Lib.hid hrd
    clear hrd
    by_cases hjN : j < 64
    · have ji : (j : Int) < 64 := by omega
      have jn : (0 : Int) ≤ j := Int.natCast_nonneg j
      have hix := fun w => run_index_row 48 64 Tryd.underlying48 W HSZ.out j hjN w
      have ck := HG6.out.k j hjN
      generalize hk : KT.getD j 0 = kj at ck
      generalize hx : W.getD j 0 = xj at hix
      have HK := Lib.hid hk
      have HX := Lib.hid hx
      clear hk hx
      go_wp2_with fail
      refine (rotm6 e _).mono ?_
      rintro _ _ ⟨rfl, rfl⟩
      go_wp2_with fail
      refine (rotm11 e _).mono ?_
      rintro _ _ ⟨rfl, rfl⟩
      go_wp2_with fail
      refine (rotm25 e _).mono ?_
      rintro _ _ ⟨rfl, rfl⟩
      go_wp2_with fail
      refine (rotm2 a _).mono ?_
      rintro _ _ ⟨rfl, rfl⟩
      go_wp2_with fail
      refine (rotm13 a _).mono ?_
      rintro _ _ ⟨rfl, rfl⟩
      go_wp2_with fail
      refine (rotm22 a _).mono ?_
      rintro _ _ ⟨rfl, rfl⟩
      go_wp2_with fail
      go_roundw
      case rel =>
        refine ⟨j + 1, _, a, b, c, _, e, f, g, by omega, by go_num, ?_, congrArg _ (w_add _ _), rfl, rfl, rfl, congrArg _ (w_add _ _), rfl, rfl, rfl, by first | trivial | rfl⟩
        rw [rds, HRD.out, HK.out, HX.out]
        rfl
      case measure => simp [intOf]; omega
    · have ji : ¬ ((j : Int) < 64) := by omega
      have hj64 : j = 64 := by omega
      have HFIN := Lib.hid (show blk8 st (be s) = #[ia + a, ib + b, ic + c, idd + d, ie + e, iff + f, ig + g, ih + h] by
        rw [blk8, HW.out, HV.out, HA.out, ← hj64, HRD.out])
      obtain ⟨c0, c1, c2, c3, c4, c5, c6, c7⟩ := HCELL.out wr HP6.out
      have HI8 := Lib.hid (show (Tryd.prog.info? 26).map (·.size) = some (#[.int .u32 (wv (ia + a)), .int .u32 (wv (ib + b)), .int .u32 (wv (ic + c)), .int .u32 (wv (idd + d)), .int .u32 (wv (ie + e)), .int .u32 (wv (iff + f)), .int .u32 (wv (ig + g)), .int .u32 (wv (ih + h))] : Array Value).size by kernel_rfl)
      have HO8 := Lib.hid (show (#[.int .u32 (wv (ia + a)), .int .u32 (wv (ib + b)), .int .u32 (wv (ic + c)), .int .u32 (wv (idd + d)), .int .u32 (wv (ie + e)), .int .u32 (wv (iff + f)), .int .u32 (wv (ig + g)), .int .u32 (wv (ih + h))] : Array Value).all (·.oneCell') = true by simp [Value.oneCell'])
      clear HCELL HRD hj64 hjN
      go_wp2_with (with_reducible refine wpList_store_row rfl 26 (.tmp 4) (.tmp 143) rfl (w.heap.size + 1) #[.int .u32 (wv (ia + a)), .int .u32 (wv (ib + b)), .int .u32 (wv (ic + c)), .int .u32 (wv (idd + d)), .int .u32 (wv (ie + e)), .int .u32 (wv (iff + f)), .int .u32 (wv (ig + g)), .int .u32 (wv (ih + h))] rfl rfl 26 #[.int .u32 0, .int .u32 0, .int .u32 0, .int .u32 0, .int .u32 0, .int .u32 0, .int .u32 0, .int .u32 0] ?hg8 HI8.out rfl HO8.out ?_)
      case hg8 => exact HP6.out.r1
      refine bodyPost_ret (results_cell_row rfl _ _ (w.heap.size + 1) 26 #[.int .u32 (wv (ia + a)), .int .u32 (wv (ib + b)), .int .u32 (wv (ic + c)), .int .u32 (wv (idd + d)), .int .u32 (wv (ie + e)), .int .u32 (wv (iff + f)), .int .u32 (wv (ig + g)), .int .u32 (wv (ih + h))] (0, 0) _ rfl (setRow_heap _ _ _ _ _ _ HP6.out.r1) Tryd.underlying26 rfl HI8.out) rfl ⟨by rw [HFIN.out]; simp [rowW], ?_⟩
      exact below_setRow HP6.out.bel (by omega) _
end Go.Proofs.YtkbfflnjbafamaaDoor
