/-
  mailsackref06.Tag: the walk.
-/
import Derived.Test.YtkfacnegfkgcgaaPRe
import Derived.Test.YtkfacnegfkgcgaaPolS
namespace Go.Proofs.Ytkfacnegfkgcgaa
open Go.RowKit MS

/-- The key's digits behind j rounds. -/
def clR (v j : Nat) : List Nat := (List.range 16).map fun i => if i < j then clD i (v / 256 ^ i % 256) else v / 256 ^ i % 256
theorem length_clR (v j : Nat) : (clR v j).length = 16 := by simp [clR]
theorem clR_get (v j i : Nat) (h : i < 16) : (clR v j)[i]? = some (if i < j then clD i (v / 256 ^ i % 256) else v / 256 ^ i % 256) := by simp [clR, h]
theorem clR_zero (v : Nat) : clR v 0 = dgn 256 16 v := by simp [clR, dgn]
theorem clR_set (v j d : Nat) (hj : j < 16) (hd : d = clD j (v / 256 ^ j % 256)) : (clR v j).set j d = clR v (j + 1) := by
  subst hd
  apply List.ext_getElem?
  intro i
  rw [List.getElem?_set, length_clR]
  by_cases h : i < 16
  · rw [clR_get _ _ _ h, clR_get _ _ _ h]
    by_cases e : j = i
    · subst e; rw [if_pos rfl, if_pos h, if_pos (Nat.lt_succ_self j)]
    · rw [if_neg e]
      congr 1
      by_cases h2 : i < j
      · rw [if_pos h2, if_pos (by omega)]
      · rw [if_neg h2, if_neg (by omega)]
  · rw [List.getElem?_eq_none (by rw [length_clR]; omega)]
    split
    · exfalso; omega
    · exact (List.getElem?_eq_none (by rw [length_clR]; omega)).symm
theorem clR_end (v : Nat) (hv : v < 340282366920938463463374607431768211456) : clR v 16 = dgn 256 16 (clampN v) := by
  apply List.ext_getElem?
  intro i
  by_cases h : i < 16
  · rw [clR_get _ _ _ h, if_pos h, dg_get _ _ _ _ h, clampN_dig v i h hv]
  · rw [List.getElem?_eq_none (by rw [length_clR]; omega), List.getElem?_eq_none (by rw [length_dgn]; omega)]
theorem clD_same {i d : Nat} (h3 : i % 4 ≠ 3) (h0 : ¬ (i % 4 = 0 ∧ 0 < i)) : clD i d = d := by rw [clD, if_neg h3, if_neg h0]
theorem clD_three {i d : Nat} (h3 : i % 4 = 3) : clD i d = d % 16 := if_pos h3
theorem clD_four {i d : Nat} (h3 : i % 4 = 0) (h0 : 0 < i) : clD i d = d / 4 * 4 := by rw [clD, if_neg (by omega), if_pos ⟨h3, h0⟩]
/-- A row of 16 digits of the call's own. -/
structure KRt (g cap : Nat) (w0 : World) (l : List Nat) (w : World) : Prop where
  own : w.ownsRow w0.heap.size 3 1 (.slice (some ⟨g, 0, none⟩) 16 cap) 16 (evs l)
  bel : Below w0.heap.size w0 w
theorem KRt.cell {g cap : Nat} {w0 w : World} {l : List Nat} (h : KRt g cap w0 l w) (j x : Nat) (hj : j < 16) (hx : l[j]? = some x) : w.cell? ⟨g, j, none⟩ = some (.int .i64 (x : Int)) := by
  rw [h.own.cellAt j (by omega), evs, List.getElem?_map, hx]
  rfl
theorem KRt.free {g cap : Nat} {w0 w : World} {l : List Nat} (h : KRt g cap w0 l w) (j : Nat) : w.frozen? ⟨g, j, none⟩ = false := h.own.frozenAt j
theorem KRt.put {g cap : Nat} {w0 w : World} {l : List Nat} (h : KRt g cap w0 l w) (j x : Nat) (v : Value) (hv : v = .int .i64 (x : Int)) : KRt g cap w0 (l.set j x) (w.setCell ⟨g, j, none⟩ v) := by
  subst hv
  refine ⟨?_, h.bel.setCell ((own_cap h.own).2.2.1) _⟩
  have := (h.own.stored j (.int .i64 (x : Int))).1
  rwa [show (evs l).set j (.int .i64 (x : Int)) = evs (l.set j x) by simp [evs, List.map_set]] at this
/-- A block's digits, and a 1 behind them. -/
theorem blk_dig (b : List UInt8) : dgn 256 (b.length + 1) (leb b + 256 ^ b.length) = dgn 256 b.length (leb b) ++ [1] := by
  have hl := leb_lt b
  have hp : 0 < 256 ^ b.length := Nat.pow_pos (by decide)
  rw [dg_succ]
  have e1 : (leb b + 256 ^ b.length) / 256 ^ b.length = 1 := by
    rw [Nat.add_div_right _ hp, Nat.div_eq_of_lt hl]
  rw [e1, dg_congr 256 b.length (leb b + 256 ^ b.length) (leb b) (by rw [Nat.add_mod_right])]
theorem blk_lt (b : List UInt8) : leb b + 256 ^ b.length < 256 ^ (b.length + 1) := by
  have hl := leb_lt b
  rw [Nat.pow_succ]
  omega
theorem ext_blk (s : ByteArray) (k e : Nat) (he : e = min (16 * k + 16) s.size) : ls (s.extract (16 * k) e) = blkP (ls s) k := by
  have hl := length_ls s
  rw [ls_extract, blkP]
  apply List.ext_getElem?
  intro i
  rw [List.getElem?_take, List.getElem?_take, List.getElem?_drop]
  by_cases h : i < 16
  · rw [if_pos h]
    split
    · rfl
    · rw [List.getElem?_eq_none (by omega)]
  · rw [if_neg h, if_neg (by omega)]
theorem tag_bytes (V j : Nat) : nbs (j + 1) V = nbs j V ++ [UInt8.ofNat (V / 256 ^ j % 256)] := by
  rw [nbs, dg_succ, List.map_append]; rfl

set_option maxRecDepth 1000000 in
set_option maxHeartbeats 4000000 in
theorem rtag_any (key s : ByteArray) (w : World) (hk : key.size = 32) (hs : s.size ≤ 100000) :
    Calls Try.prog 27 #[.string key, .string s] w fun e w' => e = .returned (.string (tagB key s)) ∧ Below w.heap.size w w' := by
  obtain ⟨i0, hi, hz0, hz1, hz2⟩ : ∃ i, Try.prog.info? 3 = some i ∧ i.zero = some (.int .i64 0) ∧ i.size = 1 ∧ i.bytes = 8 := ⟨_, rfl, rfl, rfl, rfl⟩
  obtain ⟨i8, hj0, hy0, hy1, hy2⟩ : ∃ i, Try.prog.info? 5 = some i ∧ i.zero = some (.int .u8 0) ∧ i.size = 1 ∧ i.bytes = 1 := ⟨_, rfl, rfl, rfl, rfl⟩
  have HK := Lib.hid hk
  have HS := Lib.hid hs
  have k32 : (key.size : Int) = 32 := by omega
  have k16 : (16 : Int) ≤ key.size := by omega
  have N1 := Lib.hid (fun w => number_any (key.extract 0 16) w (by rw [ByteArray.size_extract]; omega))
  have e1 : (key.extract 0 16).size = 16 := by rw [ByteArray.size_extract]; omega
  have e2 : ls (key.extract 0 16) = (ls key).take 16 := by rw [ls_extract, List.drop_zero]
  rw [e1, e2] at N1
  have N2 := Lib.hid (fun w => number_any (key.extract 16 key.size) w (by rw [ByteArray.size_extract]; omega))
  have e3 : (key.extract 16 key.size).size = 16 := by rw [ByteArray.size_extract]; omega
  have e4 : ls (key.extract 16 key.size) = (ls key).drop 16 := by
    rw [ls_extract, List.take_of_length_le (by rw [List.length_drop, length_ls]; omega)]
  rw [e3, e4] at N2
  have HLV := Lib.hid (show leb ((ls key).take 16) < 340282366920938463463374607431768211456 by
    have := leb_lt ((ls key).take 16)
    rwa [List.length_take, length_ls, hk, show (256 : Nat) ^ min 16 32 = 340282366920938463463374607431768211456 by decide] at this)
  have HLH := Lib.hid (show leb ((ls key).drop 16) < 256 ^ 16 from half_lt key hk)
  have HR := Lib.hid (show tagB key s = bs (nbs 16 (hP (clampN (leb ((ls key).take 16))) (ls s) ((s.size + 15) / 16) + leb ((ls key).drop 16))) from rfl)
  generalize leb ((ls key).take 16) = V at *
  generalize leb ((ls key).drop 16) = H at *
  generalize tagB key s = R at HR ⊢
  clear hk hs e1 e2 e3 e4
  go_enter Try.func27, Try.ntmps27
  go_wp2_with fail
  refine (N1.out _).mono ?_
  rintro e w1 ⟨hb1, r1, rfl, ho1⟩
  obtain ⟨g1, cp1, rfl, -, -⟩ := ho1.form (by decide)
  have K0 := Lib.hid (show KRt g1 cp1 w (clR V 0) w1 from ⟨by rw [clR_zero]; exact ho1, hb1⟩)
  clear ho1 hb1 N1
  go_wp2_with fail
  go_loopw [6] (fun i wr => ∃ j : Nat, j ≤ 16 ∧ i = .int .i64 j ∧ KRt g1 cp1 w (clR V j) wr) (fun i _ => 16 - (intOf i).toNat)
  case atStart => exact ⟨0, by omega, rfl, K0.out⟩
  case round =>
    obtain ⟨j, hj, rfl, hr⟩ := hrel
    have R1 := Lib.hid hr
    have HJ := Lib.hid hj
    clear hr hj K0
    by_cases hlt : j < 16
    · have j1 : (j : Int) < 16 := by omega
      have j0 : (0 : Int) ≤ (j : Int) := by omega
      have HLT := Lib.hid hlt
      have hg := clR_get V j j hlt
      rw [if_neg (Nat.lt_irrefl j)] at hg
      have ca := R1.out.cell j _ hlt hg
      have fa := R1.out.free j
      have hx := dig_lt 256 (by decide) V j
      have HST := Lib.hid (fun d h => clR_set V j d hlt h)
      clear hg
      obtain ⟨d, hd⟩ : ∃ d, d = V / 256 ^ j % 256 := ⟨_, rfl⟩
      rw [← hd] at ca hx HST
      clear hd
      have d0 : (0 : Int) ≤ (d : Int) := by omega
      have d1 : (d : Int) < 256 := by omega
      by_cases h3 : j % 4 = 3
      · have t1 : (((j : Int) % 4) == 3) = true := by simp; omega
        have t2 : (((j : Int) % 4) == 0) = false := by simp; omega
        have HP := Lib.hid (R1.out.put j (d % 16) (.int .i64 ((d : Int) % 16)) rfl)
        have HST2 := Lib.hid (HST.out (d % 16) (clD_three h3).symm)
        clear h3 hlt hx R1
        go_wp2_with fail
        go_roundw
        case rel => exact ⟨j + 1, HLT.out, by go_num, by rw [← HST2.out]; exact HP.out⟩
        case measure => simp [intOf]; have := HLT.out; omega
      · have t1 : (((j : Int) % 4) == 3) = false := by simp; omega
        by_cases h0 : j % 4 = 0 ∧ 0 < j
        · obtain ⟨h00, h01⟩ := h0
          have t2 : (((j : Int) % 4) == 0) = true := by simp; omega
          have t3 : (j : Int) > 0 := by omega
          have HP := Lib.hid (R1.out.put j (d / 4 * 4) (.int .i64 ((d : Int) / 4 * 4)) (by rw [Int.natCast_mul]; rfl))
          have HST2 := Lib.hid (HST.out (d / 4 * 4) (clD_four h00 h01).symm)
          clear h3 hlt hx R1 h00 h01
          go_wp2_with fail
          go_roundw
          case rel => exact ⟨j + 1, HLT.out, by go_num, by rw [← HST2.out]; exact HP.out⟩
          case measure => simp [intOf]; have := HLT.out; omega
        · have HST2 := Lib.hid (show KRt g1 cp1 w (clR V (j + 1)) wr from by
            rw [← HST.out d (clD_same h3 h0).symm]
            have hg := clR_get V j j hlt
            have e : (clR V j).set j d = clR V j := by
              apply List.ext_getElem?
              intro i
              rw [List.getElem?_set]
              split
              · rename_i e; subst e
                rw [if_pos (by rw [length_clR]; exact hlt)]
                have h1 := R1.out.cell j _ hlt hg
                rw [ca] at h1
                simp only [Option.some.injEq, Value.int.injEq, true_and] at h1
                rw [hg]
                congr 1
                exact_mod_cast h1
              · rfl
            rw [e]; exact R1.out)
          by_cases h00 : j % 4 = 0
          · have t2 : (((j : Int) % 4) == 0) = true := by simp; omega
            have t3 : ¬ (j : Int) > 0 := by omega
            clear h3 hlt hx R1 h00 h0
            go_wp2_with fail
            go_roundw
            case rel => exact ⟨j + 1, HLT.out, by go_num, HST2.out⟩
            case measure => simp [intOf]; have := HLT.out; omega
          · have t2 : (((j : Int) % 4) == 0) = false := by simp; omega
            clear h3 hlt hx R1 h00 h0
            go_wp2_with fail
            go_roundw
            case rel => exact ⟨j + 1, HLT.out, by go_num, HST2.out⟩
            case measure => simp [intOf]; have := HLT.out; omega
    · have j1 : ¬ (j : Int) < 16 := by omega
      have hj16 : j = 16 := by have := HJ.out; omega
      subst hj16
      have R2 := R1.out.own
      rw [clR_end V HLV.out] at R2
      have DR0 := Lib.hid (show ES wr w.heap.size (.slice (some ⟨g1, 0, none⟩) 16 cp1) 16 (clampN V) from ⟨R2, Nat.lt_of_lt_of_le clampN_lt (by decide), by decide, by decide⟩)
      have B0 := Lib.hid R1.out.bel
      clear R1 R2 hlt
      have DH0 := Lib.hid (show ES (wr.alloc (.cells #[.int .i64 0] 3 (0, 0))) 0 (.slice (some ⟨wr.heap.size, 0, none⟩) 1 1) 1 (hP (clampN V) (ls s) 0) from (show ES _ wr.heap.size _ 1 0 from ⟨World.ownsRow_lit (base := wr.heap.size) (e := 3) (size := 1) wr #[.int .i64 0] 1 (Nat.le_refl _) (by decide) rfl, by decide, by decide, by decide⟩).base (Nat.zero_le _))
      have DR1 := Lib.hid (DR0.out.on ((Below.refl wr.heap.size wr).alloc (Nat.le_refl _) (.cells #[.int .i64 0] 3 (0, 0))))
      have B1 := Lib.hid (below_alloc B0.out (.cells #[.int .i64 0] 3 (0, 0)))
      have KZ := Lib.hid (show 1 ≤ 17 by decide)
      clear DR0 B0
      go_wp2_with fail
      generalize wr.alloc (.cells #[.int .i64 0] 3 (0, 0)) = w2 at DH0 DR1 B1 ⊢
      generalize Value.slice (some ⟨wr.heap.size, 0, none⟩) 1 1 = hv0 at DH0 ⊢
      go_loopw [7, 8] (fun hv i wr => ∃ k m : Nat, k ≤ (s.size + 15) / 16 ∧ i = .int .i64 (16 * (k : Int)) ∧ m ≤ 17 ∧ ES wr 0 hv m (hP (clampN V) (ls s) k) ∧ ES wr w.heap.size (.slice (some ⟨g1, 0, none⟩) 16 cp1) 16 (clampN V) ∧ Below w.heap.size w wr) (fun _ i _ => 1000000 - (intOf i).toNat)
      case atStart => exact ⟨0, 1, by omega, rfl, KZ.out, DH0.out, DR1.out, B1.out⟩
      case round =>
        obtain ⟨k, m, hk, rfl, hm, hd, hr, hb⟩ := hrel
        obtain ⟨gh, ch, rfl, -, -⟩ := hd.form
        have D1 := Lib.hid hd
        have DR := Lib.hid hr
        have HB := Lib.hid hb
        have HKK := Lib.hid hk
        have HM := Lib.hid hm
        have sb : (s.size : Int) ≤ 100000 := by have := HS.out; omega
        clear hd hr hb hk hm DH0 DR1 B1 KZ
        by_cases hlt : 16 * k < s.size
        · have j1 : 16 * (k : Int) < s.size := by omega
          have j0 : (0 : Int) ≤ 16 * (k : Int) := by omega
          have e1 : (16 * (k : Int)).toNat = 16 * k := by omega
          have HLT := Lib.hid hlt
          by_cases hfull : 16 * k + 16 ≤ s.size
          case' pos =>
            have q1 : ¬ 16 * (k : Int) + 16 > s.size := by omega
            have q2 : 16 * (k : Int) ≤ 16 * (k : Int) + 16 := by omega
            have q3 : 16 * (k : Int) + 16 ≤ s.size := by omega
            have e2 : (16 * (k : Int) + 16).toNat = 16 * k + 16 := by omega
            have HX := Lib.hid (ext_blk s k (16 * k + 16) (by omega))
            have HXS := Lib.hid (show (s.extract (16 * k) (16 * k + 16)).size = (blkP (ls s) k).length by rw [← ext_blk s k (16 * k + 16) (by omega), length_ls])
            have NX := Lib.hid (fun w => number_any (s.extract (16 * k) (16 * k + 16)) w (by rw [ByteArray.size_extract]; omega))
          case' neg =>
            have q1 : 16 * (k : Int) + 16 > s.size := by omega
            have q2 : 16 * (k : Int) ≤ s.size := by omega
            have q3 : True := trivial
            have e2 : True := trivial
            have HX := Lib.hid (ext_blk s k s.size (by omega))
            have HXS := Lib.hid (show (s.extract (16 * k) s.size).size = (blkP (ls s) k).length by rw [← ext_blk s k s.size (by omega), length_ls])
            have NX := Lib.hid (fun w => number_any (s.extract (16 * k) s.size) w (by rw [ByteArray.size_extract]; omega))
          all_goals
            rw [HX.out, HXS.out] at NX
            have HBL := Lib.hid (show (blkP (ls s) k).length ≤ 16 by unfold blkP; rw [List.length_take]; omega)
            have HDG := Lib.hid (blk_dig (blkP (ls s) k))
            have HBD := Lib.hid (blk_lt (blkP (ls s) k))
            have HHP := Lib.hid (show hP (clampN V) (ls s) (k + 1) = (hP (clampN V) (ls s) k + (leb (blkP (ls s) k) + 256 ^ (blkP (ls s) k).length)) * clampN V % P130 from rfl)
            generalize blkP (ls s) k = bl at NX HBL HDG HBD HHP
            clear hfull hlt HX HXS
            go_wp2_with fail
            refine (NX.out _).mono ?_
            rintro e w3 ⟨hb3, r3, rfl, ho3⟩
            have hs0 : _ ≤ w3.heap.size := hb3.size
            have HB3 := Lib.hid hb3
            have HO3 := Lib.hid ho3
            have HAL := Lib.hid (ho3.alloc (.cells #[.int .i64 1] 3 (0, 0)))
            have HML := Lib.hid (show bl.length + 1 ≤ maxLen by have := HBL.out; unfold maxLen; omega)
            have HMB := Lib.hid (show (bl.length + 1) * 8 ≤ 140737488355328 by have := HBL.out; omega)
            clear hb3 ho3 NX
            go_wp2_with (at_builtin; refine wpList_append_own _ rfl (.tmp 67) (.tmp 68) 67 rfl _ 3 i0 (.int .i64 0) 1 8 Try.underlying67 hi hz0 hz1 hz2 rfl (by decide) _ _ _ rfl HAL.out ⟨w3.heap.size, 0, none⟩ 1 1 [.int .i64 (1)] rfl rfl (one_cell w3 _ _) (one_one _ rfl) HML.out HMB.out (le_alloc hs0 _) ?_)
            intro v4 w4 h1 h2 h3
            have HB4 := Lib.hid (below_app HB3.out _ _ _ _ _ HO3.out h2)
            have DB4 := Lib.hid (show ES w4 wr.heap.size v4 (bl.length + 1) (leb bl + 256 ^ bl.length) from ⟨by rw [HDG.out, evs_app]; exact h1, HBD.out, by omega, by have := HBL.out; omega⟩)
            have D4 := Lib.hid (D1.out.on HB4.out)
            have DR4 := Lib.hid (DR.out.on HB4.out)
            have BW4 := Lib.hid (HB.out.trans (HB4.out.mono HB.out.size))
            clear h1 h2 h3 hs0 HAL HML HMB HB3 HO3 D1 DR HB
            go_wp2_with fail
            refine (padd_any m (bl.length + 1) _ _ _ _ _ _ _ D4.out DB4.out).mono ?_
            rintro e w5 ⟨hb5, r5, k2, rfl, p1, p2, p3, p4, ho5⟩
            have HK2 := Lib.hid (show k2 ≤ 18 by have := HBL.out; have := HM.out; omega)
            have D5 := Lib.hid (show ES w5 _ r5 k2 (hP (clampN V) (ls s) k + (leb bl + 256 ^ bl.length)) from ⟨ho5, p4, by omega, by have := HK2.out; omega⟩)
            have DR5 := Lib.hid (DR4.out.on hb5)
            have BW5 := Lib.hid (BW4.out.trans (hb5.mono BW4.out.size))
            clear hb5 ho5 p1 p2 p3 p4 D4 DR4 BW4 DB4
            go_wp2_with fail
            refine (ptimes_any k2 16 _ _ _ _ _ _ _ D5.out DR5.out).mono ?_
            rintro e w6 ⟨hb6, r6, rfl, ho6⟩
            have D6 := Lib.hid (show ES w6 _ r6 (k2 + 16) ((hP (clampN V) (ls s) k + (leb bl + 256 ^ bl.length)) * clampN V) from ⟨ho6, prod_lt_pow D5.out.2.1 DR5.out.2.1 (by decide), by omega, by have := HK2.out; omega⟩)
            have DR6 := Lib.hid (DR5.out.on hb6)
            have BW6 := Lib.hid (BW5.out.trans (hb6.mono BW5.out.size))
            clear hb6 ho6 D5 DR5 BW5
            go_wp2_with fail
            refine (preduce_any (k2 + 16) _ _ _ _ D6.out (by have := HK2.out; omega)).mono ?_
            rintro e w7 ⟨hb7, r7, rfl, hd7⟩
            have D7 := Lib.hid (show ES w7 0 r7 17 (hP (clampN V) (ls s) (k + 1)) from by rw [HHP.out]; exact hd7)
            have DR7 := Lib.hid (DR6.out.on hb7)
            have BW7 := Lib.hid (BW6.out.trans (hb7.mono BW6.out.size))
            clear hb7 hd7 D6 DR6 BW6 HHP HBD HDG
            go_wp2_with fail
            go_roundw
            case rel => exact ⟨k + 1, 17, by have := HLT.out; omega, by go_num, Nat.le_refl _, D7.out, DR7.out, BW7.out⟩
            case measure => simp [intOf]; have := HLT.out; have := HS.out; omega
        · have j1 : ¬ 16 * (k : Int) < s.size := by omega
          have HKN := Lib.hid (show k = (s.size + 15) / 16 by have := HKK.out; omega)
          have D2 := Lib.hid (show ES wr 0 (.slice (some ⟨gh, 0, none⟩) m ch) m (hP (clampN V) (ls s) ((s.size + 15) / 16)) from by rw [← HKN.out]; exact D1.out)
          generalize hP (clampN V) (ls s) ((s.size + 15) / 16) = X at *
          clear D1 HKN HKK hlt DR
          go_wp2_with fail
          ((with_reducible refine (N2.out _).mono ?_))
          rintro e w3 ⟨hb3, r3, rfl, ho3⟩
          have D3 := Lib.hid (D2.out.on hb3)
          have DB3 := Lib.hid (show ES w3 _ r3 16 H from ⟨ho3, HLH.out, by decide, by decide⟩)
          have B3 := Lib.hid (HB.out.trans (hb3.mono HB.out.size))
          clear hb3 ho3 N2 D2 HB
          go_wp2_with fail
          refine (padd_any m 16 _ _ _ _ _ _ _ D3.out DB3.out).mono ?_
          rintro e w4 ⟨hb4, r4, k2, rfl, p1, p2, p3, p4, ho4⟩
          obtain ⟨g4, c4, rfl, -, -⟩ := ho4.form (by omega)
          have HK2 := Lib.hid p2
          have HK3 := Lib.hid (show k2 ≤ 18 by have := HM.out; omega)
          have HO4 := Lib.hid (show ES w4 _ (.slice (some ⟨g4, 0, none⟩) k2 c4) k2 (X + H) from ⟨ho4, p4, by omega, by have := HK3.out; omega⟩)
          have B4 := Lib.hid (B3.out.trans (hb4.mono B3.out.size))
          have HCELL := Lib.hid HO4.out.cells
          have kb : (k2 : Int) ≤ 18 := by have := HK3.out; omega
          clear hb4 ho4 p1 p2 p3 p4 D3 DB3 B3
          generalize X + H = T at *
          have hown0 : w4.ownsRow w4.heap.size 5 1 (.slice none 0 0) 0 (vls (nbs 0 T)) := World.ownsRow_nil _ _ _ _
          have HOWN0 := Lib.hid hown0
          clear hown0
          go_wp2_with fail
          obtain ⟨wo, rfl⟩ : ∃ wo : World, wo = w4 := ⟨_, rfl⟩
          go_loopw [10, 11] (fun v i wr => ∃ j : Nat, j ≤ 16 ∧ i = .int .i64 (j : Int) ∧ wr.ownsRow wo.heap.size 5 1 v j (vls (nbs j T)) ∧ Below wo.heap.size wo wr) (fun _ i _ => 16 - (intOf i).toNat)
          case atStart => exact ⟨0, by omega, rfl, HOWN0.out, Below.refl _ _⟩
          case round =>
            obtain ⟨j, hj, rfl, ho, hb⟩ := hrel
            have HO := Lib.hid ho
            have HBB := Lib.hid hb
            have HJ := Lib.hid hj
            have hs0 : _ ≤ wr.heap.size := hb.size
            clear ho hb hj HOWN0
            by_cases hlt : j < 16
            · have m1 : (j : Int) < 16 := by omega
              have m0 : (0 : Int) ≤ (j : Int) := by omega
              have m2 : (j : Int) < k2 := by have := HK2.out; omega
              have HLT := Lib.hid hlt
              have ca := HCELL.out wr HBB.out j (by have := HK2.out; omega)
              have hx := dig_lt 256 (by decide) T j
              have HTB := Lib.hid (tag_bytes T j)
              obtain ⟨d, hd⟩ : ∃ d, d = T / 256 ^ j % 256 := ⟨_, rfl⟩
              rw [← hd] at ca hx HTB
              clear hd
              have d0 : (0 : Int) ≤ (d : Int) := by omega
              have d1 : (d : Int) < 256 := by omega
              have HVB := Lib.hid (show valB (UInt8.ofNat d) = .int .u8 (d : Int) by
                rw [valB, UInt8.toNat_ofNat', show d % 2 ^ 8 = d by omega])
              have HAL := Lib.hid (HO.out.alloc (.cells #[.int .u8 (d : Int)] 5 (0, 0)))
              have HML := Lib.hid (show j + 1 ≤ maxLen by unfold maxLen; omega)
              have HMB := Lib.hid (show (j + 1) * 1 ≤ 140737488355328 by omega)
              clear hx hlt
              go_wp2_with (at_builtin; refine wpList_append_own _ rfl (.tmp 91) (.tmp 94) 37 rfl _ 5 i8 (.int .u8 0) 1 1 Try.underlying37 hj0 hy0 hy1 hy2 rfl (by decide) _ _ _ rfl HAL.out ⟨wr.heap.size, 0, none⟩ 1 1 [.int .u8 (d : Int)] rfl rfl (one_cell wr _ _) (one_one _ rfl) HML.out HMB.out (le_alloc hs0 _) ?_)
              intro v5 w5 h1 h2 h3
              have HB5 := Lib.hid (below_app HBB.out _ _ _ _ _ HO.out h2)
              have HO5 := Lib.hid (show w5.ownsRow wo.heap.size 5 1 v5 (j + 1) (vls (nbs (j + 1) T)) from by rw [HTB.out, vls_app, HVB.out]; exact h1)
              clear h1 h2 h3 hs0
              go_wp2_with fail
              go_roundw
              case rel => exact ⟨j + 1, HLT.out, by go_num, HO5.out, HB5.out⟩
              case measure => simp [intOf]; have := HLT.out; omega
            · have m1 : ¬ (j : Int) < 16 := by omega
              have hj16 : j = 16 := by have := HJ.out; omega
              subst hj16
              obtain ⟨g5, c5, rfl, -, -⟩ := HO.out.form (by decide)
              have hconv := conv_out (nbs 16 T) 16 (length_nbs 16 T) HO.out
              have HFIN := Lib.hid (B4.out.trans (HBB.out.mono B4.out.size))
              clear hlt hs0
              go_wp2_with fail
              go_ret
              exact ⟨by rw [HR.out]; rfl, HFIN.out⟩
end Go.Proofs.Ytkfacnegfkgcgaa
