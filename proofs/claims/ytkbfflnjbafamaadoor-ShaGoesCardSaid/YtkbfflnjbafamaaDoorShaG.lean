/-
  mailsacklaw01.ShaGoes: the walk.
-/
import Derived.Test.YtkbfflnjbafamaaDoorRSum
namespace Go.Proofs.YtkbfflnjbafamaaDoor
open Go.RowKit MS

/-- The first j words of the table, noughts behind. -/
def cpJ (a : Array W32) (j : Nat) : Array W32 := Array.ofFn (n := 8) fun i => if i.1 < j then a.getD i.1 0 else 0
theorem size_cpJ (a : Array W32) (j : Nat) : (cpJ a j).size = 8 := by simp [cpJ]
theorem cpJ_step (a : Array W32) (j : Nat) : (cpJ a j).setIfInBounds j (a.getD j 0) = cpJ a (j + 1) := by
  apply Array.ext
  · simp [cpJ]
  · intro i h1 h2
    have h3 : i < 8 := by simpa [cpJ] using h2
    rw [Array.getElem_setIfInBounds (by simpa [cpJ] using h3)]
    by_cases e : j = i
    · subst e; rw [if_pos rfl]; simp [cpJ]
    · rw [if_neg e]
      simp [cpJ, show (i < j + 1) = (i < j) by apply propext; omega]
theorem dg_get (st : Array W32) (n i : Nat) (h : i < n) : ((dg st n).drop (4 * i)).take 4 = [bW (st.getD i 0) 16777216, bW (st.getD i 0) 65536, bW (st.getD i 0) 256, bW (st.getD i 0) 1] := by
  induction n with
  | zero => omega
  | succ n ih =>
    have hl := length_dg st n
    rw [dg]
    by_cases hi : i < n
    · rw [List.drop_append_of_le_length (by omega), List.take_append_of_le_length (by rw [List.length_drop]; omega)]
      exact ih hi
    · obtain rfl : i = n := by omega
      rw [← hl, List.drop_left]
      rfl
theorem dg_byte (st : Array W32) (i k : Nat) (h : i < 8) (hk : k < 4) : (dg st 8).getD (4 * i + k) 0 = [bW (st.getD i 0) 16777216, bW (st.getD i 0) 65536, bW (st.getD i 0) 256, bW (st.getD i 0) 1].getD k 0 := by
  rw [← dg_get st 8 i h, List.getD_eq_getElem?_getD, List.getD_eq_getElem?_getD, List.getElem?_take, if_pos hk, List.getElem?_drop]
theorem padJ_bs (s : ByteArray) (j : Nat) : bs (padJ s j) ++ bs [0] = bs (padJ s (j + 1)) := by rw [bs_append, padJ_succ]
/-- The eight bytes of the count of bits, as the law makes them. -/
theorem run_count (n : Nat) (hn : n ≤ 4096) (w : World) (b : Nat) (hb : w.heap.size = b) :
    (convert 33 9 (.slice (some ⟨b, 0, none⟩) 8 8)).run Tryd.prog (w.alloc (.cells #[.int .u8 0, .int .u8 0, .int .u8 0, .int .u8 0, .int .u8 (8 * (n : Int) / 16777216), .int .u8 (8 * (n : Int) / 65536), .int .u8 (8 * (n : Int) / 256), .int .u8 (8 * (n : Int) % 256)] 5 (0, 0)))
      = .ok (.string (bs (be8 (n * 8)))) (w.alloc (.cells #[.int .u8 0, .int .u8 0, .int .u8 0, .int .u8 0, .int .u8 (8 * (n : Int) / 16777216), .int .u8 (8 * (n : Int) / 65536), .int .u8 (8 * (n : Int) / 256), .int .u8 (8 * (n : Int) % 256)] 5 (0, 0))) := by
  subst hb
  refine run_block_to_string _ 33 9 5 Tryd.underlying33 Tryd.underlying5 Tryd.underlying9 _ 8 8 5 (0, 0) (be8 (n * 8)) (cs := #[.int .u8 0, .int .u8 0, .int .u8 0, .int .u8 0, .int .u8 (8 * (n : Int) / 16777216), .int .u8 (8 * (n : Int) / 65536), .int .u8 (8 * (n : Int) / 256), .int .u8 (8 * (n : Int) % 256)]) (heap_alloc_new w _) rfl (fun j h => ?_)
  have e : ∀ m : Nat, ((bN (n * 8) m).toNat : Int) = ((n * 8 / m % 256 : Nat) : Int) := fun m => by unfold bN; rw [UInt8.toNat_ofNat', Nat.mod_mod]
  match j, h with
  | 0, _ => exact congrArg (fun z => some (Value.int .u8 z)) (by show (0 : Int) = _; exact ((e _).trans (by omega)).symm)
  | 1, _ => exact congrArg (fun z => some (Value.int .u8 z)) (by show (0 : Int) = _; exact ((e _).trans (by omega)).symm)
  | 2, _ => exact congrArg (fun z => some (Value.int .u8 z)) (by show (0 : Int) = _; exact ((e _).trans (by omega)).symm)
  | 3, _ => exact congrArg (fun z => some (Value.int .u8 z)) (by show (0 : Int) = _; exact ((e _).trans (by omega)).symm)
  | 4, _ => exact congrArg (fun z => some (Value.int .u8 z)) ((e _).trans (by omega)).symm
  | 5, _ => exact congrArg (fun z => some (Value.int .u8 z)) ((e _).trans (by omega)).symm
  | 6, _ => exact congrArg (fun z => some (Value.int .u8 z)) ((e _).trans (by omega)).symm
  | 7, _ => exact congrArg (fun z => some (Value.int .u8 z)) ((e _).trans (by omega)).symm
theorem bW_int (x : W32) (m : Nat) : wv x / m % 256 = ((bW x m).toNat : Int) := by
  have := bW_val x m
  unfold valB at this
  injection this with _ h
  exact h.symm
theorem bW_int1 (x : W32) : wv x % 256 = ((bW x 1).toNat : Int) := by
  have := bW_int x 1
  simpa using this
/-- The state's block and the table's. -/
structure GSt (w1 : World) (g gs : Nat) (st : Array W32) (w : World) : Prop where
  hg : g = w1.heap.size
  sz : st.size = 8
  ne : gs ≠ g
  r0 : w.heap[g]? = some (.cells (rowW st) 26 (0, 0))
  iv : w.heap[gs]? = some (.cells (rowW IV) 25 (0, 0))
  bel : Below w1.heap.size w1 w
theorem row_cp0 : rowW (cpJ IV 0) = #[.int .u32 0, .int .u32 0, .int .u32 0, .int .u32 0, .int .u32 0, .int .u32 0, .int .u32 0, .int .u32 0] := by kernel_rfl
theorem gst_start (w1 : World) : GSt w1 w1.heap.size (w1.heap.size + 1) (cpJ IV 0) ((w1.alloc (.cells #[.int .u32 0, .int .u32 0, .int .u32 0, .int .u32 0, .int .u32 0, .int .u32 0, .int .u32 0, .int .u32 0] 26 (0, 0))).alloc (.cells (rowW IV) 25 (0, 0))) := by
  refine ⟨rfl, rfl, by omega, ?_, ?_, below_alloc (below_alloc (Below.refl _ _) _) _⟩
  · rw [row_cp0]
    exact ((MapKept.heap_alloc _ _).2 _ (by rw [World.size_alloc]; omega)).trans (MapKept.heap_alloc w1 _).1
  · have := (MapKept.heap_alloc (w1.alloc (.cells #[.int .u32 0, .int .u32 0, .int .u32 0, .int .u32 0, .int .u32 0, .int .u32 0, .int .u32 0, .int .u32 0] 26 (0, 0))) (.cells (rowW IV) 25 (0, 0))).1
    rw [World.size_alloc] at this
    exact this
theorem GSt.ivcell {w1 w : World} {g gs : Nat} {st : Array W32} (h : GSt w1 g gs st w) (j : Nat) (hj : j < 8) : w.cell? ⟨gs, j, none⟩ = some (.int .u32 (wv (IV.getD j 0))) := by
  rw [cell_of_row _ _ j _ _ _ h.iv, rowW_get IV j hj]
theorem GSt.hcell {w1 w : World} {g gs : Nat} {st : Array W32} (h : GSt w1 g gs st w) (j : Nat) (hj : j < 8) : w.cell? ⟨g, j, none⟩ = some (.int .u32 (wv (st.getD j 0))) := by
  rw [cell_of_row _ _ j _ _ _ h.r0, rowW_get st j (by rw [h.sz]; exact hj)]
theorem GSt.put {w1 w : World} {g gs : Nat} {j : Nat} (h : GSt w1 g gs (cpJ IV j) w) (i : Nat) (e : i = j := by rfl) : GSt w1 g gs (cpJ IV (i + 1)) (w.setCell ⟨g, i, none⟩ (.int .u32 (wv (IV.getD i 0)))) := by
  subst e
  refine ⟨h.hg, size_cpJ _ _, h.ne, ?_, ?_, below_setCell h.bel (by rw [h.hg]; exact Nat.le_refl _) _⟩
  · rw [← cpJ_step, ← rowW_set]
    exact heap_setCell_same w g i _ _ _ h.r0
  · rw [heap_setCell_other _ _ _ _ h.ne]
    exact h.iv
theorem GSt.toU {w1 w : World} {g gs : Nat} {st : Array W32} (h : GSt w1 g gs st w) : USt w1 st w := ⟨h.sz, by rw [← h.hg]; exact h.r0, h.bel⟩
set_option maxRecDepth 1000000 in
set_option maxHeartbeats 2000000 in
theorem shagoes_any (s : ByteArray) (w : World) (G : Glob w) :
    Calls Tryd.prog 6 #[.string s] w fun e w' => e = .returned (.bool true) ∧ Below w.heap.size w w' := by
  have HG := Lib.hid G
  have A := Lib.hid (fun w G => awake01_any w G)
  clear G
  by_cases g0 : s.size > 4096
  · have t0 : decide ((s.size : Int) > 4096) = true := by simp; omega
    go_enter Tryd.func6, Tryd.ntmps6
    go_wp2_with fail
    refine (A.out _ HG.out).mono ?_
    rintro e w1 ⟨rfl, hb1⟩
    go_wp2_with fail
    go_ret
    exact ⟨rfl, hb1⟩
  have t0 : decide ((s.size : Int) > 4096) = false := by simp; omega
  have sb : (s.size : Int) ≤ 4096 := by omega
  have sn : (0 : Int) ≤ s.size := by omega
  have HSZ := Lib.hid (show s.size ≤ 4096 by omega)
  have S1 := Lib.hid (fun w G => sum_any s w (by omega) G)
  have HZ := Lib.hid (show padZ s.size = (119 - s.size % 64) % 64 from rfl)
  have HB0 := Lib.hid (show s ++ (⟨#[128]⟩ : ByteArray) = bs (padJ s 0) from by
    apply ls_inj
    rw [ls_append]
    rfl)
  have HSTEP := Lib.hid (padJ_bs s)
  have HPL := Lib.hid (fun j => show (bs (padJ s j)).size = s.size + 1 + j by rw [size_bs, length_padJ])
  have HPAD := Lib.hid (show bs (padJ s (padZ s.size)) ++ bs (be8 (s.size * 8)) = padB s by rw [bs_append]; rfl)
  have kcv := run_count s.size (by omega)
  clear g0
  go_enter Tryd.func6, Tryd.ntmps6
  go_wp2_with fail
  rw [HB0.out]
  go_loop [3] (fun v => ∃ (j : Nat) (b : ByteArray), j ≤ padZ s.size ∧ v = .string b ∧ b = bs (padJ s j) ∧ b.size = s.size + 1 + j) (fun v => 100000 - strLen v)
  case atStart => exact ⟨0, _, Nat.zero_le _, rfl, rfl, HPL.out 0⟩
  case round =>
    obtain ⟨j, b, hj, rfl, hb, hbs⟩ := hrel
    have HB := Lib.hid hb
    have HBS := Lib.hid hbs
    have hz : padZ s.size < 64 := by unfold padZ; omega
    have hb9 : (b.size : Int) ≤ 4200 := by have := HSZ.out; omega
    have hb0 : (0 : Int) ≤ b.size := by omega
    have HJ := Lib.hid hj
    by_cases h56 : b.size % 64 = 56
    · have t1 : ((b.size : Int) % 64 != 56) = false := by simp; omega
      have hjz : j = padZ s.size := by have := HZ.out; have := HBS.out; have := HJ.out; omega
      have hpb := HPAD.out
      rw [← hjz, ← HB.out] at hpb
      have HPB := Lib.hid hpb
      clear hjz hpb h56 hb hbs hj hz
      have hs9 : (b.size : Int) + ((bs (be8 (s.size * 8))).size : Int) ≤ 4300 := by rw [size_bs, show (be8 (s.size * 8)).length = 8 from rfl]; omega
      go_wp2_with fail
      rw [HPB.out]
      refine (state_any _).mono ?_
      rintro e w2 ⟨rfl, rfl⟩
      go_wp2_with fail
      obtain ⟨w1, hw1⟩ : ∃ w1 : World, w.alloc (.cells #[.int .u8 0, .int .u8 0, .int .u8 0, .int .u8 0, .int .u8 (8 * (s.size : Int) / 16777216), .int .u8 (8 * (s.size : Int) / 65536), .int .u8 (8 * (s.size : Int) / 256), .int .u8 (8 * (s.size : Int) % 256)] 5 (0, 0)) = w1 := ⟨_, rfl⟩
      have hb1 : Below w.heap.size w w1 := by rw [← hw1]; exact below_alloc (Below.refl _ _) _
      have hs1 : w1.heap.size = w.heap.size + 1 := by rw [← hw1, World.size_alloc]
      have gst := gst_start w1
      rw [hs1] at gst
      rw [hw1]
      generalize (w1.alloc (.cells #[.int .u32 0, .int .u32 0, .int .u32 0, .int .u32 0, .int .u32 0, .int .u32 0, .int .u32 0, .int .u32 0] 26 (0, 0))).alloc (.cells (rowW IV) 25 (0, 0)) = w2 at gst ⊢
      have HB1 := Lib.hid hb1
      generalize w.heap.size + 1 + 1 = gs at gst ⊢
      generalize hg : w.heap.size + 1 = g at gst hs1 ⊢
      have GS := Lib.hid gst
      have HS1 := Lib.hid hs1
      have HFP := Lib.hid (fin_pad s)
      obtain ⟨K, hK⟩ : ∃ K, (padB s).size = 64 * K := ⟨(padB s).size / 64, by have := size_padB_mod s; omega⟩
      rw [hK, Nat.mul_div_cancel_left K (by decide)] at HFP
      have HSM := Lib.hid (show sumB s = bs (dg (fin s) 8) from rfl)
      have HSS := Lib.hid (show (sumB s).size = 32 from size_sumB s)
      have hK9 : K ≤ 70 := by rw [size_padB] at hK; have := HSZ.out; have : padZ s.size < 64 := (by unfold padZ; omega); omega
      have HKK := Lib.hid hK
      have HK9 := Lib.hid hK9
      generalize hP : padB s = P at HFP HKK ⊢
      generalize fin s = F at HFP HSM
      generalize sumB s = D at S1 HSM HSS
      clear hw1 hb1 gst hg hs1 hK hK9 kcv hs9 t1 hb9 hb0 HB HBS HJ HPB HPAD HPL HSTEP HB0 HZ hP
      go_loopw [44] (fun i wr => ∃ j : Nat, j ≤ 8 ∧ i = .int .i64 j ∧ GSt w1 g gs (cpJ IV j) wr) (fun i _ => 8 - (intOf i).toNat)
      case atStart => exact ⟨0, by omega, rfl, GS.out⟩
      case round =>
        obtain ⟨j, hj, rfl, hst⟩ := hrel
        have HST := Lib.hid hst
        clear hst GS
        by_cases hlt : j < 8
        · have j1 : (j : Int) < 8 := by omega
          have j0 : (0 : Int) ≤ j := by omega
          have ci := HST.out.ivcell j hlt
          have ch := HST.out.hcell j hlt
          have fh := frozen_of_row _ g j _ _ HST.out.r0
          have HN := Lib.hid (HST.out.put j)
          have HLT := Lib.hid hlt
          generalize IV.getD j 0 = x at ci HN
          generalize (cpJ IV j).getD j 0 = y at ch
          clear hlt
          go_wp2_with fail
          go_roundw
          case rel => exact ⟨j + 1, HLT.out, by go_num, HN.out⟩
          case measure => simp [intOf]; omega
        · have j1 : ¬ ((j : Int) < 8) := by omega
          have hj8 : j = 8 := by omega
          have u0 := HST.out
          rw [hj8, show cpJ IV 8 = IV from rfl] at u0
          have U0 := Lib.hid u0.toU
          clear u0 hj8 hlt hj HST
          go_wp2_with fail
          go_loopw [8] (fun i wr => ∃ m : Nat, m ≤ K ∧ i = .int .i64 (64 * m : Nat) ∧ USt w1 (hs (bwT P) IV m) wr) (fun i _ => 10000 - (intOf i).toNat)
          case atStart => exact ⟨0, Nat.zero_le _, rfl, U0.out⟩
          case round =>
            obtain ⟨m, hm, rfl, hu⟩ := hrel
            have HU := Lib.hid hu
            have HM := Lib.hid hm
            clear hu hm U0 j1
            by_cases hlt : m < K
            · obtain ⟨a, ha⟩ : ∃ a, a = 64 * m := ⟨_, rfl⟩
              have a2 : (a : Int) + 64 ≤ P.size := by rw [HKK.out]; omega
              have a0 : (0 : Int) ≤ a := by omega
              have a3 : (a : Int) + 64 ≤ 10000 := by have := HK9.out; omega
              have a4 : (a : Int) < P.size := by omega
              have HA := Lib.hid ha
              have HLT := Lib.hid hlt
              have E1 := Lib.hid (show P.extract a (a + 64) = P.extract (64 * m) (64 * m + 64) by rw [ha])
              have HSZ2 := Lib.hid (show (P.extract a (a + 64)).size = 64 by rw [ByteArray.size_extract]; omega)
              rw [← ha]
              clear ha hlt
              have HI := Lib.hid (USt.info HU.out.sz)
              generalize hST : hs (bwT P) IV m = ST at HU HI
              have HST := Lib.hid hST
              clear hST
              go_wp2_with fail
              refine wp_region_draws_tail 6 (by kernel_rfl) (by kernel_rfl) ?_
              simp only [List.take_succ_cons, List.take_zero, List.drop_succ_cons, List.drop_zero]
              refine wpQuiet_load_row rfl 26 (.tmp 5) rfl g rfl 26 (rowW ST) (0, 0) _ ?hC Tryd.underlying26 rfl HI.out ?_
              case hC => rintro w' ⟨k, rfl⟩; rw [← HS1.out]; exact HU.out.r0
              simp only [Act.put, List.setIfInBounds_toArray, List.set_cons_zero, List.set_cons_succ]
              repeat (go_big_quiet_step (fail))
              refine wpQuiet_nil ?_
              intro _ hw'
              obtain ⟨kk, hw''⟩ := hw'
              subst hw''
              have HUQ := Lib.hid (HU.out.drewN kk)
              generalize wr.drewN kk = wq at HUQ ⊢
              have GQ := Lib.hid (HG.out.on (HB1.out.trans (HUQ.out.bel.mono HB1.out.size)))
              go_wp2_with fail
              refine (sblock_yes ST (P.extract a (a + 64)) wq HU.out.sz HSZ2.out GQ.out).mono ?_
              rintro e w5 ⟨rfl, hb5⟩
              have HU5 := Lib.hid (HUQ.out.on hb5)
              have hu6 := HU5.out.put (blk8 ST (be (P.extract a (a + 64)))) rfl
              rw [HS1.out] at hu6
              have HU6 := Lib.hid hu6
              have HL := Lib.hid (show (rowW ST).size = (rowW (blk8 ST (be (P.extract a (a + 64))))).size by rw [size_rowW, size_rowW, HU.out.sz]; rfl)
              have HI6 := Lib.hid (USt.info (st := blk8 ST (be (P.extract a (a + 64)))) rfl)
              generalize hN : blk8 ST (be (P.extract a (a + 64))) = NS at HU6 HL HI6 ⊢
              have HN := Lib.hid hN
              clear hb5 hN hu6
              go_wp2_with (with_reducible refine wpList_store_row rfl 26 (.tmp 5) (.tmp 65) rfl g (rowW NS) rfl rfl 26 (rowW ST) ?hg HI6.out HL.out (one_rowW NS) ?_)
              case hg => rw [← HS1.out]; exact HU5.out.r0
              go_roundw
              case rel =>
                refine ⟨m + 1, HLT.out, by have := HA.out; go_num, ?_⟩
                rw [hs, HST.out, bwT, ← E1.out, HN.out]
                exact HU6.out
              case measure => simp [intOf]; omega
            · have m1 : ¬ (((64 * m : Nat) : Int) < (P.size : Int)) := by rw [HKK.out]; omega
              have hmK : m = K := by have := HM.out; omega
              have u1 := HU.out
              rw [hmK, HFP.out] at u1
              have U1 := Lib.hid u1
              have B9 := Lib.hid (HB1.out.trans (u1.bel.mono HB1.out.size))
              have HF8 := Lib.hid u1.sz
              have HIF := Lib.hid (USt.info u1.sz)
              have HDD := Lib.hid (fun i k (hi : i < 8) (hk : k < 4) => show (ls D).getD (4 * i + k) 0 = [bW (F.getD i 0) 16777216, bW (F.getD i 0) 65536, bW (F.getD i 0) 256, bW (F.getD i 0) 1].getD k 0 by rw [HSM.out, ls_bs]; exact dg_byte F i k hi hk)
              generalize 64 * m = mm at m1 ⊢
              have d32 : ((D.size : Int) != 32) = false := by rw [HSS.out]; rfl
              clear u1 hmK hlt HU HM
              go_wp2_with fail
              refine (S1.out _ (HG.out.on B9.out)).mono ?_
              rintro e w6 ⟨rfl, hb6⟩
              have U6 := Lib.hid (U1.out.on hb6)
              have B6 := Lib.hid (B9.out.trans (hb6.mono B9.out.size))
              clear hb6 S1
              go_wp2_with (with_reducible refine wpList_load_row rfl 26 (.tmp 5) rfl g rfl 26 (rowW F) (0, 0) _ ?hgf Tryd.underlying26 rfl HIF.out ?_)
              case hgf => rw [← HS1.out]; exact U6.out.r0
              clear d32
              go_loopw [72] (fun i wr => ∃ j : Nat, j ≤ 8 ∧ i = .int .i64 j ∧ wr = w6) (fun i _ => 8 - (intOf i).toNat)
              case atStart => exact ⟨0, by omega, rfl, rfl⟩
              case round =>
                obtain ⟨j, hj, rfl, rfl⟩ := hrel
                by_cases hlt : j < 8
                · have j1 : (j : Int) < 8 := by omega
                  have j0 : (0 : Int) ≤ j := by omega
                  have hix := fun w => run_index_row 26 8 Tryd.underlying26 F HF8.out j hlt w
                  have e0 := HDD.out j 0 hlt (by decide)
                  have e1 := HDD.out j 1 hlt (by decide)
                  have e2 := HDD.out j 2 hlt (by decide)
                  have e3 := HDD.out j 3 hlt (by decide)
                  have i0 := ls_get D (4 * j) (by rw [HSS.out]; omega)
                  have i1 := ls_get D (4 * j + 1) (by rw [HSS.out]; omega)
                  have i2 := ls_get D (4 * j + 2) (by rw [HSS.out]; omega)
                  have i3 := ls_get D (4 * j + 3) (by rw [HSS.out]; omega)
                  rw [show 4 * j + 0 = 4 * j by omega] at e0
                  rw [e0] at i0
                  rw [e1] at i1
                  rw [e2] at i2
                  rw [e3] at i3
                  simp only [List.getD_cons_zero, List.getD_cons_succ] at i0 i1 i2 i3
                  have d0 : 4 * (j : Int) + 3 < D.size := by rw [HSS.out]; omega
                  have d1 : 4 * (j : Int) + 2 < D.size := by omega
                  have d2 : 4 * (j : Int) + 1 < D.size := by omega
                  have d3 : 4 * (j : Int) < D.size := by omega
                  have p0 : (0 : Int) ≤ 4 * (j : Int) := by omega
                  have p1 : (0 : Int) ≤ 4 * (j : Int) + 1 := by omega
                  have p2 : (0 : Int) ≤ 4 * (j : Int) + 2 := by omega
                  have p3 : (0 : Int) ≤ 4 * (j : Int) + 3 := by omega
                  have HLT := Lib.hid hlt
                  generalize F.getD j 0 = x at hix i0 i1 i2 i3
                  have q0 := bW_int x 16777216
                  have q1 := bW_int x 65536
                  have q2 := bW_int x 256
                  have q3 := bW_int1 x
                  generalize bW x 16777216 = b0 at i0 q0
                  generalize bW x 65536 = b1 at i1 q1
                  generalize bW x 256 = b2 at i2 q2
                  generalize bW x 1 = b3 at i3 q3
                  clear e0 e1 e2 e3
                  go_wp2_with fail
                  exact ⟨⟨j + 1, HLT.out, by go_num, trivial⟩, by simp [intOf]; omega⟩
                · have j1 : ¬ ((j : Int) < 8) := by omega
                  clear hlt
                  go_wp2_with fail
                  refine (A.out _ (HG.out.on B6.out)).mono ?_
                  rintro e w7 ⟨rfl, hb⟩
                  have B7 := Lib.hid (B6.out.trans (hb.mono B6.out.size))
                  clear hb
                  go_wp2_with fail
                  go_ret
                  exact ⟨rfl, B7.out⟩
    · have t1 : ((b.size : Int) % 64 != 56) = true := by simp; omega
      have hjz : j < padZ s.size := by have := HZ.out; have := HBS.out; have := HJ.out; omega
      have HJZ := Lib.hid hjz
      have e := HSTEP.out j
      rw [← HB.out] at e
      have HE := Lib.hid (show b ++ (⟨#[0]⟩ : ByteArray) = bs (padJ s (j + 1)) from e)
      clear hjz h56 e hb hbs hj hz
      go_wp2_with fail
      go_round
      case rel => exact ⟨j + 1, _, HJZ.out, rfl, HE.out, by rw [HE.out]; exact HPL.out (j + 1)⟩
      case measure =>
        show 100000 - (b ++ (⟨#[0]⟩ : ByteArray)).size < 100000 - b.size
        rw [ByteArray.size_append, show (⟨#[0]⟩ : ByteArray).size = 1 from rfl]
        omega
end Go.Proofs.YtkbfflnjbafamaaDoor
