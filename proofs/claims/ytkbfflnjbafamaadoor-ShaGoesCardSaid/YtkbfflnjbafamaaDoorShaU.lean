/-
  sha.Sum: the walk.
-/
import Derived.Test.YtkbfflnjbafamaaDoorShaE
namespace Go.Proofs.YtkbfflnjbafamaaDoor
open Go.RowKit MS

theorem wpQuiet_load_row {P : Program} {ops : Array Oper} {C : World → Prop} {Q : Act → Prop} {a : Act} {o : Oper} {rest : List Oper} (hgd : o.guard = none) (ty : TypeId) (x : Operand) (ho : o.op = .load ty x)
    (g : Nat) (hx : a.eval x = .pointer (some ⟨g, 0, none⟩)) (t : TypeId) (cs : Array Value) (fr : Nat × Nat) (d : TypeDesc) (hC : ∀ w, C w → w.heap[g]? = some (.cells cs t fr))
    (hu : P.underlying ty = some d) (hd : (match d with | .struct _ | .array _ _ => true | _ => false) = true) (hi : (P.info? ty).map (·.size) = some cs.size)
    (h : wpQuiet P ops C Q rest (a.put o.dst (.agg cs))) : wpQuiet P ops C Q (o :: rest) a := by
  show if Region.wanted o (yielded ops a.tmps) = true then _ else _
  rw [if_pos (by simp [Region.wanted, hgd])]
  refine ⟨.agg cs, fun w hw => ?_, h⟩
  unfold Oper.quietAt execOp
  simp only [ho, hx, Instr.loadAt, Instr.sureAddr, Sem.run_bind, Sem.run_pure, Result.andThen_ok, run_loadVar_row w g t ty cs fr d (hC w hw) hu hd hi]
  exact ⟨rfl, rfl⟩

theorem ext_ext (s : ByteArray) (i a b : Nat) (hb : i + b ≤ s.size) : (s.extract i s.size).extract a b = s.extract (i + a) (i + b) := by
  apply ls_inj
  rw [ls_extract, ls_extract, ls_extract]
  apply List.ext_getElem?
  intro j
  simp only [List.getElem?_take, List.getElem?_drop]
  by_cases h : j < b - a
  · rw [if_pos h, if_pos (by omega), if_pos (by omega), Nat.add_assoc]
  · rw [if_neg h, if_neg (by omega)]
theorem size_ext (s : ByteArray) (i : Nat) : (s.extract i s.size).size = s.size - i := by
  rw [ByteArray.size_extract]
  omega
theorem size_ext2 (s : ByteArray) (i j : Nat) (h : j ≤ s.size) : (s.extract i j).size = j - i := by
  rw [ByteArray.size_extract]
  omega

/-- The state behind m blocks. -/
def bwT (t : ByteArray) (m : Nat) : Nat → W32 := be (t.extract (64 * m) (64 * m + 64))
def hs (bw : Nat → Nat → W32) (st : Array W32) : Nat → Array W32
  | 0 => st
  | m + 1 => blk8 (hs bw st m) (bw m)
theorem size_hs (bw : Nat → Nat → W32) (st : Array W32) (h : st.size = 8) (m : Nat) : (hs bw st m).size = 8 := by
  cases m with
  | zero => exact h
  | succ m => rfl
structure USt (w0 : World) (st : Array W32) (w : World) : Prop where
  sz : st.size = 8
  r0 : w.heap[w0.heap.size]? = some (.cells (rowW st) 26 (0, 0))
  bel : Below w0.heap.size w0 w
theorem USt.on {w0 w w' : World} {st : Array W32} (h : USt w0 st w) (hb : Below w.heap.size w w') : USt w0 st w' :=
  ⟨h.sz, (hb.block _ (Array.getElem?_eq_some_iff.1 h.r0).1).trans h.r0, h.bel.trans (hb.mono h.bel.size)⟩
theorem USt.drewN {w0 w : World} {st : Array W32} (h : USt w0 st w) (k : Nat) : USt w0 st (w.drewN k) := ⟨h.sz, h.r0, below_drewN h.bel k⟩
theorem USt.put {w0 w : World} {st : Array W32} (h : USt w0 st w) (st' : Array W32) (h' : st'.size = 8) : USt w0 st' (w.setRow w0.heap.size (rowW st')) :=
  ⟨h', setRow_heap w _ _ _ _ _ h.r0, below_setRow h.bel (Nat.le_refl _) _⟩
theorem USt.info {st : Array W32} (h : st.size = 8) : (Tryd.prog.info? 26).map (·.size) = some (rowW st).size := by rw [size_rowW, h]; kernel_rfl
theorem ust_start (w : World) : USt w IV ((w.alloc (.cells #[.int .u32 0, .int .u32 0, .int .u32 0, .int .u32 0, .int .u32 0, .int .u32 0, .int .u32 0, .int .u32 0] 26 (0, 0))).setRow w.heap.size (rowW IV)) :=
  ⟨rfl, setRow_heap _ _ _ _ _ _ (MapKept.heap_alloc w _).1, below_setRow (below_alloc (Below.refl _ _) _) (Nat.le_refl _) _⟩
theorem ending_any (r : ByteArray) (n : Nat) (w : World) (hr : r.size < 64) :
    Calls Tryd.prog 33 #[.string r, .int .u64 ((n : Int) * 8)] w fun e w' => e = .returned (.string (bs (endL (ls r) (n * 8)))) ∧ Below w.heap.size w w' := by
  have e : ((n * 8 : Nat) : Int) = (n : Int) * 8 := by omega
  by_cases h : r.size + 9 ≤ 64
  · have := ending64 r (n * 8) w h
    rwa [e] at this
  · have := ending128 r (n * 8) w ⟨hr, by omega⟩
    rwa [e] at this
def bW (x : W32) (m : Nat) : UInt8 := UInt8.ofNat (x.toNat / m % 256)
theorem bW_val (x : W32) (m : Nat) : valB (bW x m) = .int .u8 (wv x / m % 256) := by
  unfold valB bW wv
  have : (UInt8.ofNat (x.toNat / m % 256)).toNat = x.toNat / m % 256 := by simp
  rw [this]
  congr 1
theorem bW_one (x : W32) : valB (bW x 1) = .int .u8 (wv x % 256) := by
  rw [bW_val]
  simp
def dg (st : Array W32) : Nat → List UInt8
  | 0 => []
  | i + 1 => dg st i ++ [bW (st.getD i 0) 16777216, bW (st.getD i 0) 65536, bW (st.getD i 0) 256, bW (st.getD i 0) 1]
theorem length_dg (st : Array W32) (i : Nat) : (dg st i).length = 4 * i := by
  induction i with
  | zero => rfl
  | succ i ih => simp [dg, ih]; omega
theorem four_cell (w : World) (x y z u : Value) (T : Nat) : ∀ j v, [x, y, z, u][j]? = some v → (w.alloc (.cells #[x, y, z, u] T (0, 0))).cell? ((⟨w.heap.size, 0, none⟩ : Addr).add j) = some v := by
  intro j v hu
  have h := cell_of_row (w.alloc (.cells #[x, y, z, u] T (0, 0))) w.heap.size j #[x, y, z, u] T (0, 0) (MapKept.heap_alloc w _).1
  have e : (⟨w.heap.size, 0, none⟩ : Addr).add j = ⟨w.heap.size, j, none⟩ := by unfold Addr.add; split <;> simp_all
  rw [e, h, ← hu]
  simp
def lastB (s : ByteArray) : ByteArray := bs (endL (ls (s.extract (64 * (s.size / 64)) s.size)) (s.size * 8))
def fin (s : ByteArray) : Array W32 := hs (bwT (lastB s)) (hs (bwT s) IV (s.size / 64)) ((lastB s).size / 64)
def sumB (s : ByteArray) : ByteArray := bs (dg (fin s) 8)
theorem size_fin (s : ByteArray) : (fin s).size = 8 := size_hs _ _ (size_hs _ _ rfl _) _
def strLen : Value → Nat
  | .string b => b.size
  | _ => 0

set_option maxRecDepth 100000 in
set_option maxHeartbeats 1000000 in
theorem sum_any (s : ByteArray) (w : World) (hsz : s.size ≤ 100000) (G : Glob w) :
    Calls Tryd.prog 17 #[.string s] w fun e w' => e = .returned (.string (sumB s)) ∧ Below w.heap.size w w' := by
  obtain ⟨i8, hj0, hy0, hy1, hy2⟩ : ∃ i, Tryd.prog.info? 5 = some i ∧ i.zero = some (.int .u8 0) ∧ i.size = 1 ∧ i.bytes = 1 := ⟨_, rfl, rfl, rfl, rfl⟩
  obtain ⟨t0, fr0, h0⟩ := G.g0
  have HG := Lib.hid G
  have HLT := Lib.hid G.lt
  have sb : (s.size : Int) ≤ 100000 := by omega
  have sn : (0 : Int) ≤ s.size := by omega
  have HSZ := Lib.hid hsz
  have H0 := Lib.hid h0
  have HST := Lib.hid (ust_start w)
  have HIV := Lib.hid (USt.info (st := IV) rfl)
  have H1 := Lib.hid (MapKept.heap_alloc w (.cells #[.int .u32 0, .int .u32 0, .int .u32 0, .int .u32 0, .int .u32 0, .int .u32 0, .int .u32 0, .int .u32 0] 26 (0, 0))).1
  clear h0 hsz G
  go_enter Tryd.func17, Tryd.ntmps17
  go_wp2_with (first
    | (with_reducible refine wpList_load_row rfl 26 (.global 0) rfl 0 rfl t0 (rowW IV) fr0 _ ?hg0 Tryd.underlying26 rfl HIV.out ?_)
    | (with_reducible refine wpList_store_row rfl 26 (.tmp 3) (.tmp 9) rfl w.heap.size (rowW IV) rfl rfl 26 #[.int .u32 0, .int .u32 0, .int .u32 0, .int .u32 0, .int .u32 0, .int .u32 0, .int .u32 0, .int .u32 0] ?hg1 HIV.out ?hl1 (one_rowW IV) ?_))
  case hg0 => exact H0.out
  case hg1 => exact H1.out
  case hl1 => rw [size_rowW]; rfl
  generalize hw3 : World.setRow _ _ _ = w3
  have st3 : USt w IV w3 := by rw [← hw3]; exact HST.out
  clear hw3 H0 H1 HST
  go_loopw [4] (fun v wr => ∃ (m : Nat) (b : ByteArray), 64 * m ≤ (s).size ∧ v = .string b ∧ b = (s).extract (64 * m) (s).size ∧ USt w (hs (bwT (s)) IV m) wr) (fun v _ => strLen v)
  case atStart => exact ⟨0, _, by omega, rfl, by simp, st3⟩
  case round =>
    obtain ⟨m, b, hm, rfl, hb, st⟩ := hrel
    have hbs : b.size = (s).size - 64 * m := by rw [hb, size_ext]
    have HB := Lib.hid hb
    have HBS := Lib.hid hbs
    have HM := Lib.hid hm
    have HU := Lib.hid st
    clear hb hm st st3
    by_cases h64 : 64 ≤ b.size
    · have hi : (b.size : Int) ≥ 64 := by omega
      have E1 := Lib.hid (show b.extract 0 64 = (s).extract (64 * m) (64 * m + 64) by rw [HB.out, ext_ext _ _ _ _ (by have := HM.out; omega)]; rfl)
      have E2 := Lib.hid (show b.extract 64 b.size = (s).extract (64 * (m + 1)) (s).size by
        rw [hbs, HB.out, ext_ext _ _ _ _ (by have := HM.out; omega)]
        congr 1
        have := HM.out
        omega)
      have H64 := Lib.hid h64
      have HI := Lib.hid (USt.info HU.out.sz)
      have h0 : (64 : Int) ≤ b.size := by omega
      clear hbs h64
      generalize hST : hs (bwT (s)) IV m = ST at HU HI
      have HST := Lib.hid hST
      clear hST
      go_wp2_with fail
      refine wp_region_draws_tail 3 (by kernel_rfl) (by kernel_rfl) ?_
      simp only [List.take_succ_cons, List.take_zero, List.drop_succ_cons, List.drop_zero]
      refine wpQuiet_load_row rfl 26 (.tmp 3) rfl w.heap.size rfl 26 (rowW ST) (0, 0) _ ?hC Tryd.underlying26 rfl HI.out ?_
      case hC => rintro w' ⟨k, rfl⟩; exact HU.out.r0
      simp only [Act.put, List.setIfInBounds_toArray, List.set_cons_zero, List.set_cons_succ]
      repeat (go_big_quiet_step (fail))
      refine wpQuiet_nil ?_
      intro _ hw'
      obtain ⟨kk, hw''⟩ := hw'
      subst hw''
      have HUQ := Lib.hid (HU.out.drewN kk)
      generalize wr.drewN kk = wq at HUQ ⊢
      have GQ := Lib.hid (HG.out.on HUQ.out.bel)
      go_wp2_with fail
      refine (sblock_yes ST (b.extract 0 64) wq HU.out.sz (by rw [size_ext2 _ _ _ H64.out]) GQ.out).mono ?_
      rintro e w5 ⟨rfl, hb5⟩
      have HU5 := Lib.hid (HUQ.out.on hb5)
      have HU6 := Lib.hid (HU5.out.put (blk8 ST (be (b.extract 0 64))) rfl)
      have HL := Lib.hid (show (rowW ST).size = (rowW (blk8 ST (be (b.extract 0 64)))).size by rw [size_rowW, size_rowW, HU.out.sz]; rfl)
      have HI6 := Lib.hid (USt.info (st := blk8 ST (be (b.extract 0 64))) rfl)
      generalize hN : blk8 ST (be (b.extract 0 64)) = NS at HU6 HL HI6 ⊢
      have HN := Lib.hid hN
      clear hb5 hN
      go_wp2_with (with_reducible refine wpList_store_row rfl 26 (.tmp 3) (.tmp 17) rfl w.heap.size (rowW NS) rfl rfl 26 (rowW ST) ?hg HI6.out HL.out (one_rowW NS) ?_)
      case hg => exact HU5.out.r0
      go_roundw
      case rel =>
        refine ⟨m + 1, _, by have := HM.out; have := HBS.out; have := H64.out; omega, rfl, E2.out, ?_⟩
        rw [hs, HST.out, bwT, ← E1.out, HN.out]
        exact HU6.out
      case measure =>
        show (b.extract 64 b.size).size < b.size
        rw [size_ext]
        have := H64.out
        omega
    · have hi : ¬ ((b.size : Int) ≥ 64) := by omega
      have hbl : b.size < 64 := by omega
      have hmm : m = s.size / 64 := by have := HM.out; omega
      have HE := Lib.hid (fun w => ending_any b s.size w hbl)
      have hlast : bs (endL (ls b) (s.size * 8)) = lastB s := by rw [lastB, ← hmm, ← HB.out]
      rw [hlast] at HE
      have hTs : (lastB s).size = 64 ∨ (lastB s).size = 128 := by
        rw [← hlast, size_bs, length_endL _ _ (by rw [length_ls]; exact hbl)]
        split <;> omega
      have hST1 : hs (bwT s) IV m = hs (bwT s) IV (s.size / 64) := by rw [hmm]
      have HS8 := Lib.hid HU.out.sz
      have st4 := HU.out
      rw [hST1] at st4
      have HTS := Lib.hid hTs
      have HFN := Lib.hid (show fin s = hs (bwT (lastB s)) (hs (bwT s) IV (s.size / 64)) ((lastB s).size / 64) from rfl)
      generalize hs (bwT s) IV (s.size / 64) = S1 at st4 HFN
      generalize lastB s = T at HE HTS HFN
      have HU4 := Lib.hid st4
      clear hbs h64 hbl hmm hlast hTs hST1 st4
      go_wp2_with fail
      refine (HE.out _).mono ?_
      rintro e w6 ⟨rfl, hb6⟩
      have st6 := HU4.out.on hb6
      clear hb6
      go_wp2_with fail
      go_loopw [5] (fun v wr => ∃ (m : Nat) (b : ByteArray), 64 * m ≤ (T).size ∧ v = .string b ∧ b = (T).extract (64 * m) (T).size ∧ USt w (hs (bwT (T)) S1 m) wr) (fun v _ => strLen v)
      case atStart => exact ⟨0, _, by omega, rfl, by simp, st6⟩
      case round =>
        obtain ⟨m, b, hm, rfl, hb, st⟩ := hrel
        have hbs : b.size = (T).size - 64 * m := by rw [hb, size_ext]
        have HB := Lib.hid hb
        have HBS := Lib.hid hbs
        have HM := Lib.hid hm
        have HU := Lib.hid st
        clear hb hm st st6
        by_cases h64 : 64 ≤ b.size
        · have hi : (b.size : Int) ≥ 64 := by omega
          have E1 := Lib.hid (show b.extract 0 64 = (T).extract (64 * m) (64 * m + 64) by rw [HB.out, ext_ext _ _ _ _ (by have := HM.out; omega)]; rfl)
          have E2 := Lib.hid (show b.extract 64 b.size = (T).extract (64 * (m + 1)) (T).size by
            rw [hbs, HB.out, ext_ext _ _ _ _ (by have := HM.out; omega)]
            congr 1
            have := HM.out
            omega)
          have H64 := Lib.hid h64
          have HI := Lib.hid (USt.info HU.out.sz)
          have h0 : (64 : Int) ≤ b.size := by omega
          clear hbs h64
          generalize hST : hs (bwT (T)) S1 m = ST at HU HI
          have HST := Lib.hid hST
          clear hST
          go_wp2_with fail
          refine wp_region_draws_tail 3 (by kernel_rfl) (by kernel_rfl) ?_
          simp only [List.take_succ_cons, List.take_zero, List.drop_succ_cons, List.drop_zero]
          refine wpQuiet_load_row rfl 26 (.tmp 3) rfl w.heap.size rfl 26 (rowW ST) (0, 0) _ ?hC Tryd.underlying26 rfl HI.out ?_
          case hC => rintro w' ⟨k, rfl⟩; exact HU.out.r0
          simp only [Act.put, List.setIfInBounds_toArray, List.set_cons_zero, List.set_cons_succ]
          repeat (go_big_quiet_step (fail))
          refine wpQuiet_nil ?_
          intro _ hw'
          obtain ⟨kk, hw''⟩ := hw'
          subst hw''
          have HUQ := Lib.hid (HU.out.drewN kk)
          generalize wr.drewN kk = wq at HUQ ⊢
          have GQ := Lib.hid (HG.out.on HUQ.out.bel)
          go_wp2_with fail
          refine (sblock_yes ST (b.extract 0 64) wq HU.out.sz (by rw [size_ext2 _ _ _ H64.out]) GQ.out).mono ?_
          rintro e w5 ⟨rfl, hb5⟩
          have HU5 := Lib.hid (HUQ.out.on hb5)
          have HU6 := Lib.hid (HU5.out.put (blk8 ST (be (b.extract 0 64))) rfl)
          have HL := Lib.hid (show (rowW ST).size = (rowW (blk8 ST (be (b.extract 0 64)))).size by rw [size_rowW, size_rowW, HU.out.sz]; rfl)
          have HI6 := Lib.hid (USt.info (st := blk8 ST (be (b.extract 0 64))) rfl)
          generalize hN : blk8 ST (be (b.extract 0 64)) = NS at HU6 HL HI6 ⊢
          have HN := Lib.hid hN
          clear hb5 hN
          go_wp2_with (with_reducible refine wpList_store_row rfl 26 (.tmp 3) (.tmp 32) rfl w.heap.size (rowW NS) rfl rfl 26 (rowW ST) ?hg HI6.out HL.out (one_rowW NS) ?_)
          case hg => exact HU5.out.r0
          go_roundw
          case rel =>
            refine ⟨m + 1, _, by have := HM.out; have := HBS.out; have := H64.out; omega, rfl, E2.out, ?_⟩
            rw [hs, HST.out, bwT, ← E1.out, HN.out]
            exact HU6.out
          case measure =>
            show (b.extract 64 b.size).size < b.size
            rw [size_ext]
            have := H64.out
            omega
        · have hi : ¬ ((b.size : Int) ≥ 64) := by omega
          have hmm : m = T.size / 64 := by have := HM.out; omega
          have hfs : hs (bwT T) S1 m = fin s := by rw [HFN.out, hmm]
          have st7 := HU.out
          rw [hfs] at st7
          have HSM := Lib.hid (show sumB s = bs (dg (fin s) 8) from rfl)
          generalize fin s = F at st7 HSM
          have HF := Lib.hid st7.r0
          have HFS := Lib.hid st7.sz
          have HIF := Lib.hid (USt.info st7.sz)
          have HBL := Lib.hid st7.bel
          have HB1 := Lib.hid (show i8.bytes * 32 ≤ 281474976710656 by rw [hy2]; decide)
          have HSB := Lib.hid (show w.heap.size ≤ wr.heap.size from st7.bel.size)
          clear hfs hmm h64 hbs st7
          go_wp2_with (with_reducible refine wpList_make_own _ rfl (.const (.int .i64 0)) (.const (.int .i64 32)) 33 rfl w.heap.size 5 i8 (.int .u8 0) 1 Tryd.underlying33 hj0 hy0 hy1 .i64 .i64 32 32 rfl rfl rfl HB1.out (by decide) HSB.out ?_)
          intro w7 g1 g2
          have HG1 := Lib.hid g1
          have HB7 := Lib.hid (HBL.out.grown g2 HSB.out (by intro k e; cases e))
          have hr7 := (g2.block _ (Array.getElem?_eq_some_iff.1 HF.out).1 (by simp)).trans HF.out
          have HR7 := Lib.hid hr7
          clear g1 g2 hr7
          go_wp2_with (with_reducible refine wpList_load_row rfl 26 (.tmp 3) rfl w.heap.size rfl 26 (rowW F) (0, 0) _ ?hgf Tryd.underlying26 rfl HIF.out ?_)
          case hgf => exact HR7.out
          go_loopw [6, 37] (fun v i wr => ∃ j : Nat, j ≤ 8 ∧ i = .int .i64 j ∧ (∃ g cap, v = .slice (some ⟨g, 0, none⟩) (4 * j) cap) ∧ wr.ownsRow w.heap.size 5 1 v (4 * j) (vls (dg F j)) ∧ Below w.heap.size w wr) (fun _ i _ => 8 - (intOf i).toNat)
          case atStart => exact ⟨0, by omega, rfl, ⟨_, _, rfl⟩, HG1.out, HB7.out⟩
          case round =>
            obtain ⟨j, hj, rfl, hv, hown, hnx⟩ := hrel
            have HOWN := Lib.hid hown
            have HNX := Lib.hid hnx
            have HVV := Lib.hid hv
            clear hown hnx hv
            by_cases hjN : j < 8
            · have ji : (j : Int) < 8 := by omega
              have jn : (0 : Int) ≤ j := Int.natCast_nonneg j
              have hix := fun w => run_index_row 26 8 Tryd.underlying26 F HFS.out j hjN w
              generalize hx : F.getD j 0 = x at hix
              have HX := Lib.hid hx
              have hs0 := HNX.out.size
              have HA := Lib.hid (HOWN.out.alloc (.cells #[.int .u8 (wv x / 16777216 % 256), .int .u8 (wv x / 65536 % 256), .int .u8 (wv x / 256 % 256), .int .u8 (wv x % 256)] 5 (0, 0)))
              have HM := Lib.hid (show 4 * j + 4 ≤ maxLen by unfold maxLen; omega)
              have HN := Lib.hid (show (4 * j + 4) * 1 ≤ 140737488355328 by omega)
              have H4 := Lib.hid (show ∀ u ∈ [Value.int .u8 (wv x / 16777216 % 256), .int .u8 (wv x / 65536 % 256), .int .u8 (wv x / 256 % 256), .int .u8 (wv x % 256)], u.oneCell' = true by simp [Value.oneCell'])
              clear hx
              go_wp2_with (at_builtin; refine wpList_append_own _ rfl (.tmp 40) (.tmp 52) 33 rfl _ 5 i8 (.int .u8 0) 1 1 Tryd.underlying33 hj0 hy0 hy1 hy2 rfl (by decide) _ _ _ rfl HA.out ⟨wr.heap.size, 0, none⟩ 4 4 [.int .u8 (wv x / 16777216 % 256), .int .u8 (wv x / 65536 % 256), .int .u8 (wv x / 256 % 256), .int .u8 (wv x % 256)] rfl rfl (four_cell wr _ _ _ _ _) H4.out HM.out HN.out (le_alloc hs0 _) ?_)
              intro v1 w8 h1 h2 h3
              have HB8 := Lib.hid (below_app HNX.out _ _ _ _ _ HOWN.out h2)
              have HO8 := Lib.hid h1
              clear h1 h2 h3 hs0
              go_wp2_with fail
              go_roundw
              case rel =>
                obtain ⟨g, cap, hg, _⟩ := HO8.out.form (by omega)
                refine ⟨j + 1, by omega, by go_num, ⟨g, cap, hg⟩, ?_, HB8.out⟩
                have := HO8.out
                rw [dg, HX.out, vls, List.map_append, show 4 * (j + 1) = 4 * j + 4 by omega]
                rw [List.map_cons, List.map_cons, List.map_cons, List.map_cons, List.map_nil, bW_val, bW_val, bW_val, bW_one]
                exact this
              case measure => simp [intOf]; omega
            · have ji : ¬ ((j : Int) < 8) := by omega
              have hj8 : j = 8 := by omega
              have HO6 := HOWN.out
              obtain ⟨g, cap, rfl⟩ := HVV.out
              rw [hj8] at HO6 ⊢
              have hcv := conv_out (dg F 8) (4 * 8) (length_dg _ _) HO6
              have HFF := Lib.hid HNX.out
              clear HO6 hj8 hjN HOWN HNX HVV
              go_wp2_with fail
              go_ret
              exact ⟨by rw [HSM.out]; rfl, HFF.out⟩
end Go.Proofs.YtkbfflnjbafamaaDoor
