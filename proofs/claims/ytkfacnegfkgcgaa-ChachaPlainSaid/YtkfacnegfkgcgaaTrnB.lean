/-
  chacha.Turn: the walk.
-/
import Derived.Test.YtkfacnegfkgcgaaTrnA
import Derived.Deep.QuietTactic
namespace Go.Proofs.Ytkfacnegfkgcgaa
open Go.RowKit MS

attribute [local go_sem] w_succ b_xor
set_option maxRecDepth 100000 in
set_option maxHeartbeats 1000000 in
theorem turn_yes (k n : ByteArray) (c : W32) (s : ByteArray) (w : World) (hk : k.size = 32) (hn : n.size = 12) :
    Calls Try.prog 23 #[.string k, .string n, .int .u32 (wv c), .string s] w fun e w' => e = .returned (.tuple #[.string (bs (trn (ls s) (ks k n c))), .bool true]) ∧ Below w.heap.size w w' := by
  have H1 := Lib.hid (begin_yes k n c w hk hn)
  have hz := fun c => size_iw k n c
  have HZ := Lib.hid hz
  have HI := Lib.hid (fun c => show (Try.prog.info? 53).map (·.size) = some (rowW (iw k n c)).size by rw [size_rowW, hz]; kernel_rfl)
  have HO := Lib.hid (fun c => show (rowW (iw k n c)).all (·.oneCell') = true by simp [rowW, Value.oneCell'])
  have HL := Lib.hid (fun c => show (Array.replicate 16 (Value.int .u32 0)).size = (rowW (iw k n c)).size by rw [size_rowW, hz]; rfl)
  clear hk hn hz
  go_enter Try.func23, Try.ntmps23
  go_wp2_with fail
  refine H1.out.mono ?_
  rintro e w1 ⟨rfl, hb1⟩
  have HR := Lib.hid ((MapKept.heap_alloc w1 (.cells (Array.replicate 16 (.int .u32 0)) 53 (0, 0))).1)
  have HR' := Lib.hid (setRow_heap _ _ _ (rowW (iw k n c)) _ _ HR.out)
  have HB1 := Lib.hid hb1
  clear hb1
  have hcv := fun w => run_bytes_of_string (P := Try.prog) w 9 37 5 s Try.underlying9 Try.underlying37 Try.underlying5
  go_wp2_with (with_reducible refine wpList_store_row rfl 53 (.tmp 10) (.tmp 22) rfl w1.heap.size (rowW (iw k n c)) rfl rfl 53 (Array.replicate 16 (.int .u32 0)) ?hg (HI.out c) (HL.out c) (HO.out c) ?_)
  case hg => exact HR.out
  generalize hcap : grownCap _ s.size 0 5 = cap
  have hcp : s.size ≤ cap := by rw [← hcap]; exact grownCap_ge _ _ _ _
  have st := tst_start HB1.out (iw k n c) s cap
  generalize World.drew _ = w3 at st ⊢
  generalize (bytesRow s cap).size = fz at st
  generalize w1.heap.size + 1 = O at st ⊢
  generalize w1.heap.size = B at st ⊢
  have HC := Lib.hid hcp
  clear hcv hcap HR HR' HB1 H1
  have hls : (ls s).length = s.size := rfl
  have HLS := Lib.hid hls
  go_loopw [13] (fun r wr => ∃ m p q cq off : Nat, p + q = s.size ∧ p + cq = cap ∧ (0 < q → p = 64 * m ∧ off = p) ∧ r = .slice (some ⟨O, off, none⟩) q cq ∧ TSt B O cap fz w (iw k n (c + BitVec.ofNat 32 m)) (mixl (ls s) (ks k n c) p) wr) (fun r _ => sliceLen r)
  case atStart => exact ⟨0, 0, s.size, cap, 0, by omega, by omega, fun _ => ⟨rfl, rfl⟩, rfl, by rw [mixl_zero, show c + BitVec.ofNat 32 0 = c from BitVec.add_zero c]; exact st⟩
  case round =>
    obtain ⟨m, p, q, cq, off, hpq, hpc, hoff, rfl, st0⟩ := hrel
    have HPQ := Lib.hid hpq
    have HPC := Lib.hid hpc
    have HST := Lib.hid st0
    clear st hls hcp
    by_cases hq : 0 < q
    · obtain ⟨hpm, hof⟩ := hoff hq
      subst hof
      have HPM := Lib.hid hpm
      clear hoff hpm st0 hpq hpc
      have hqi : (0 : Int) < q := Int.ofNat_lt.2 hq
      obtain ⟨sz, hs0, hs1, hs2, hs3⟩ : ∃ sz : Nat, sz ≤ 64 ∧ sz ≤ q ∧ 0 < sz ∧ (if (q : Int) < 64 then (q : Int) else 64) = (sz : Int) := by
        by_cases h : q < 64
        · exact ⟨q, by omega, by omega, by omega, by rw [if_pos (by omega)]⟩
        · exact ⟨64, by omega, by omega, by omega, by rw [if_neg (by omega)]; rfl⟩
      have hI := HI.out (c + BitVec.ofNat 32 m)
      have HII := Lib.hid hI
      have H2 := Lib.hid (fun w => finish_any (iw k n (c + BitVec.ofNat 32 m)) w (HZ.out _))
      clear hI
      generalize hIm : iw k n (c + BitVec.ofNat 32 m) = I at HII H2 HST
      have HIM := Lib.hid hIm
      clear hIm
      go_wp2_with (with_reducible refine wpList_load_row rfl 53 (.tmp 10) rfl B rfl 53 (rowW I) (0, 0) _ HST.out.rs Try.underlying53 rfl HII.out ?_)
      refine (H2.out _).mono ?_
      rintro e w4 ⟨rfl, hb4⟩
      have hb64 : (blk I).size = 64 := size_orow _ _
      have HI5 := Lib.hid (show (Try.prog.info? 56).map (·.size) = some (blk I).size by rw [hb64]; kernel_rfl)
      have HO5 := Lib.hid (show (blk I).all (·.oneCell') = true from all_orow _ _)
      have HL5 := Lib.hid (show (Array.replicate 64 (Value.int .u8 0)).size = (blk I).size by rw [hb64]; rfl)
      have hS := (MapKept.heap_alloc w4 (.cells (Array.replicate 64 (.int .u8 0)) 56 (0, 0))).1
      have HS := Lib.hid hS
      have HS' := Lib.hid (setRow_heap _ _ _ (blk I) _ _ hS)
      have st4 := tst_block HST.out hb4 (.cells (Array.replicate 64 (.int .u8 0)) 56 (0, 0)) (blk I)
      have lO : O < w4.heap.size := Nat.lt_of_lt_of_le (Array.getElem?_eq_some_iff.1 HST.out.ro).1 hb4.size
      have lB : B < w4.heap.size := Nat.lt_of_lt_of_le (Array.getElem?_eq_some_iff.1 HST.out.rs).1 hb4.size
      clear hb4 hb64 hS
      have ST4 := Lib.hid st4
      clear st4
      go_wp2_with (with_reducible refine wpList_store_row rfl 56 (.tmp 15) (.tmp 36) rfl w4.heap.size (blk I) rfl rfl 56 (Array.replicate 64 (.int .u8 0)) ?hg3 HI5.out HL5.out HO5.out ?_)
      case hg3 => exact HS.out
      have st5 := ST4.out
      have hE := HS'.out
      generalize hW : World.setRow (World.alloc w4 _) _ _ = w5
      have hW' : World.setRow (World.alloc w4 (.cells (Array.replicate 64 (.int .u8 0)) 56 (0, 0))) w4.heap.size (blk I) = w5 := hW
      rw [hW'] at st5 hE
      have HS3 := Lib.hid (show sz = q ∨ sz = 64 by
        by_cases h : (q : Int) < 64
        · rw [if_pos h] at hs3; omega
        · rw [if_neg h] at hs3; omega)
      clear hs3 ST4 HS HS' HI5 HO5 HL5 H2 HST hW hW'
      generalize w4.heap.size = E at *
      go_loopw [38] (fun i wr => ∃ j : Nat, j ≤ sz ∧ i = .int .i64 j ∧ TSt B O cap fz w I (mixl (ls s) (ks k n c) (off + j)) wr ∧ wr.heap[E]? = some (.cells (blk I) 56 (0, 0))) (fun i _ => sz - (intOf i).toNat)
      case atStart => exact ⟨0, by omega, rfl, st5, hE⟩
      case round =>
        obtain ⟨j, hj, rfl, st6, hE6⟩ := hrel
        clear st5 hE
        by_cases hjs : j < sz
        · have ji : (j : Int) < sz := Int.ofNat_lt.2 hjs
          have jq : (j : Int) < q := Int.ofNat_lt.2 (Nat.lt_of_lt_of_le hjs hs1)
          have j64n := Nat.lt_of_lt_of_le hjs hs0
          have j64 : (j : Int) < 64 := by omega
          have jn : (0 : Int) ≤ j := Int.natCast_nonneg j
          have hlt : off + j < (mixl (ls s) (ks k n c) (off + j)).length := by rw [length_mixl, HLS.out]; have := HPQ.out; have := Nat.lt_of_lt_of_le hjs hs1; omega
          have c1 := st6.byte (off + j) hlt
          have f1 := st6.free (off + j) hlt
          have c2 := cell_of_row wr E j _ _ _ hE6
          rw [blk_get I j j64n] at c2
          generalize hx1 : (mixl (ls s) (ks k n c) (off + j)).getD (off + j) 0 = x1 at c1
          generalize hx2 : (ls (blkB I)).getD j 0 = x2 at c2
          have HX1 := Lib.hid hx1
          have HX2 := Lib.hid hx2
          have HLT := Lib.hid hlt
          clear hx1 hx2 hlt
          go_wp2_with fail
          refine wp_region_draws_tail 9 (by kernel_rfl) (by kernel_rfl) ?_
          simp only [List.take_succ_cons, List.take_zero, List.drop_succ_cons, List.drop_zero]
          repeat (go_big_quiet_step (fail))
          refine wpQuiet_nil ?_
          intro _ hw'
          obtain ⟨kk, hw''⟩ := hw'
          subst hw''
          go_wp2_with fail
          have st7 := (st6.drewN kk).put (off + j) HLT.out (x1 ^^^ x2)
          have hE7 : (World.setCell (wr.drewN kk) ⟨O, off + j, none⟩ (valB (x1 ^^^ x2))).heap[E]? = some (.cells (blk I) 56 (0, 0)) := by
            rw [heap_setCell_other _ _ _ _ (by show ¬ E = O; omega)]
            exact hE6
          have hst : (mixl (ls s) (ks k n c) (off + j)).set (off + j) (x1 ^^^ x2) = mixl (ls s) (ks k n c) (off + (j + 1)) := by
            have hl2 : off + j < (ls s).length := by have := HLT.out; rwa [length_mixl] at this
            show _ = mixl (ls s) (ks k n c) (off + j + 1)
            rw [← mixl_step _ _ _ hl2, ← HX1.out, mixl_getD _ _ _ hl2, ← HX2.out, ← HIM.out, HPM.out, ← ks_at k n c m j j64n]
          have hv : valB (x1 ^^^ x2) = Value.int .u8 ((x1.toNat ^^^ x2.toNat : Nat) : Int) := by simp [valB]
          rw [hst, hv] at st7
          rw [hv] at hE7
          go_roundw
          case rel => exact ⟨j + 1, by omega, by go_num, st7, hE7⟩
          case measure => simp [intOf]; omega
        · have ji : ¬ ((j : Int) < sz) := by omega
          have hjs' : j = sz := by omega
          rw [hjs'] at st6
          have sq : (sz : Int) ≤ q := by omega
          have sn : (0 : Int) ≤ sz := by omega
          have cb := cell_of_row wr B 12 _ _ _ st6.rs
          have fb := frozen_of_row wr B 12 _ _ st6.rs
          have hI12 : (rowW I)[12]? = some (.int .u32 (wv (c + BitVec.ofNat 32 m))) := by
            rw [← HIM.out]
            exact iw_cell _ _ _
          rw [hI12] at cb
          have HS6 := Lib.hid st6
          clear hjs' hjs st6 hE6 lO lB hI12
          go_wp2_with fail
          go_roundw
          case rel =>
            have hpq := HPQ.out
            have hpc := HPC.out
            have hcc := HC.out
            have st8 := HS6.out.count (c + BitVec.ofNat 32 m + 1)
            rw [← HIM.out, iw_set, count_up] at st8
            refine ⟨m + 1, off + sz, q - sz, cq - sz, if cq = sz then off else off + sz, by omega, by omega, fun h => ?_, by split <;> rfl, ?_⟩
            · have := HS3.out
              have := HPM.out
              exact ⟨by omega, by rw [if_neg (by omega)]⟩
            · rw [← count_up] at st8 ⊢
              exact st8
          case measure =>
            show q - sz < q
            omega
    · have hq0 : ¬ ((0 : Int) < q) := by omega
      have hq' : q = 0 := by omega
      have hp : p = s.size := by omega
      have htr : mixl (ls s) (ks k n c) p = trn (ls s) (ks k n c) := mixl_all _ _ _ (by rw [HLS.out, hp]; exact Nat.le_refl _)
      rw [htr] at st0
      have hcv := turned_conv st0 s.size (by rw [length_trn, HLS.out])
      have HF := Lib.hid st0.bel
      clear st0 htr hp HST hoff hq'
      go_wp2_with fail
      go_ret2
      exact ⟨rfl, HF.out⟩
end Go.Proofs.Ytkfacnegfkgcgaa
