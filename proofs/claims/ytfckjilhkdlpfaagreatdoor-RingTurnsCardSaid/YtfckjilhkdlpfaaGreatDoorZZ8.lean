/-
  Texts of this seat, put together (what is needed of them): PRf, AeD, AeE, AeG, SealP, RingA, RingB, RingD, RingE, RingF, RingG, RingI, ByMk.
-/
import Derived.Test.YtfckjilhkdlpfaaGreatDoorZZ7
import Derived.Test.YtfckjilhkdlpfaaGreatDoorProg

namespace Go.Proofs.YtfckjilhkdlpfaaGreatDoor
open Go.RowKit MS
/-- The key's digits behind j rounds. -/
def clR (v j : Nat) : List Nat := (List.range 16).map fun i => if i < j then clD i (v / 256 ^ i % 256) else v / 256 ^ i % 256
theorem length_clR (v j : Nat) : (clR v j).length = 16 := by simp [clR]
theorem clR_get (v j i : Nat) (h : i < 16) : (clR v j)[i]? = some (if i < j then clD i (v / 256 ^ i % 256) else v / 256 ^ i % 256) := by simp [clR, h]
theorem clR_zero (v : Nat) : clR v 0 = dgn 256 16 v := by simp [clR, dgn]
theorem clR_set (v j d : Nat) (hj : j < 16) (hd : d = clD j (v / 256 ^ j % 256)) : (clR v j).set j d = clR v (j + 1) := by
  subst hd
  apply List.ext_getElem?
  intro i
  rw [List.getElem?_set, length_clR]
  by_cases h : i < 16
  · rw [clR_get _ _ _ h, clR_get _ _ _ h]
    by_cases e : j = i
    · subst e; rw [if_pos rfl, if_pos h, if_pos (Nat.lt_succ_self j)]
    · rw [if_neg e]
      congr 1
      by_cases h2 : i < j
      · rw [if_pos h2, if_pos (by omega)]
      · rw [if_neg h2, if_neg (by omega)]
  · rw [List.getElem?_eq_none (by rw [length_clR]; omega)]
    split
    · exfalso; omega
    · exact (List.getElem?_eq_none (by rw [length_clR]; omega)).symm
theorem clR_end (v : Nat) (hv : v < 340282366920938463463374607431768211456) : clR v 16 = dgn 256 16 (clampN v) := by
  apply List.ext_getElem?
  intro i
  by_cases h : i < 16
  · rw [clR_get _ _ _ h, if_pos h, dg_get _ _ _ _ h, clampN_dig v i h hv]
  · rw [List.getElem?_eq_none (by rw [length_clR]; omega), List.getElem?_eq_none (by rw [length_dgn]; omega)]
theorem clD_same {i d : Nat} (h3 : i % 4 ≠ 3) (h0 : ¬ (i % 4 = 0 ∧ 0 < i)) : clD i d = d := by rw [clD, if_neg h3, if_neg h0]
theorem clD_three {i d : Nat} (h3 : i % 4 = 3) : clD i d = d % 16 := if_pos h3
theorem clD_four {i d : Nat} (h3 : i % 4 = 0) (h0 : 0 < i) : clD i d = d / 4 * 4 := by rw [clD, if_neg (by omega), if_pos ⟨h3, h0⟩]
/-- A row of 16 digits of the call's own. -/
structure KRt (g cap : Nat) (w0 : World) (l : List Nat) (w : World) : Prop where
  own : w.ownsRow w0.heap.size 3 1 (.slice (some ⟨g, 0, none⟩) 16 cap) 16 (evs l)
  bel : Below w0.heap.size w0 w
theorem KRt.cell {g cap : Nat} {w0 w : World} {l : List Nat} (h : KRt g cap w0 l w) (j x : Nat) (hj : j < 16) (hx : l[j]? = some x) : w.cell? ⟨g, j, none⟩ = some (.int .i64 (x : Int)) := by
  rw [h.own.cellAt j (by omega), evs, List.getElem?_map, hx]
  rfl
theorem KRt.free {g cap : Nat} {w0 w : World} {l : List Nat} (h : KRt g cap w0 l w) (j : Nat) : w.frozen? ⟨g, j, none⟩ = false := h.own.frozenAt j
theorem KRt.put {g cap : Nat} {w0 w : World} {l : List Nat} (h : KRt g cap w0 l w) (j x : Nat) (v : Value) (hv : v = .int .i64 (x : Int)) : KRt g cap w0 (l.set j x) (w.setCell ⟨g, j, none⟩ v) := by
  subst hv
  refine ⟨?_, h.bel.setCell ((own_cap h.own).2.2.1) _⟩
  have := (h.own.stored j (.int .i64 (x : Int))).1
  rwa [show (evs l).set j (.int .i64 (x : Int)) = evs (l.set j x) by simp [evs, List.map_set]] at this
/-- A block's digits, and a 1 behind them. -/
theorem blk_dig (b : List UInt8) : dgn 256 (b.length + 1) (leb b + 256 ^ b.length) = dgn 256 b.length (leb b) ++ [1] := by
  have hl := leb_lt b
  have hp : 0 < 256 ^ b.length := Nat.pow_pos (by decide)
  rw [dg_succ]
  have e1 : (leb b + 256 ^ b.length) / 256 ^ b.length = 1 := by
    rw [Nat.add_div_right _ hp, Nat.div_eq_of_lt hl]
  rw [e1, dg_congr 256 b.length (leb b + 256 ^ b.length) (leb b) (by rw [Nat.add_mod_right])]
theorem blk_lt (b : List UInt8) : leb b + 256 ^ b.length < 256 ^ (b.length + 1) := by
  have hl := leb_lt b
  rw [Nat.pow_succ]
  omega
theorem ext_blk (s : ByteArray) (k e : Nat) (he : e = min (16 * k + 16) s.size) : ls (s.extract (16 * k) e) = blkP (ls s) k := by
  have hl := length_ls s
  rw [ls_extract, blkP]
  apply List.ext_getElem?
  intro i
  rw [List.getElem?_take, List.getElem?_take, List.getElem?_drop]
  by_cases h : i < 16
  · rw [if_pos h]
    split
    · rfl
    · rw [List.getElem?_eq_none (by omega)]
  · rw [if_neg h, if_neg (by omega)]
theorem tag_bytes (V j : Nat) : nbs (j + 1) V = nbs j V ++ [UInt8.ofNat (V / 256 ^ j % 256)] := by
  rw [nbs, dg_succ, List.map_append]; rfl

set_option maxRecDepth 1000000 in
set_option maxHeartbeats 4000000 in
theorem rtag_any (key s : ByteArray) (w : World) (hk : key.size = 32) (hs : s.size ≤ 100000) :
    Calls Tryz.prog 84 #[.string key, .string s] w fun e w' => e = .returned (.string (tagB key s)) ∧ Below w.heap.size w w' := by
  obtain ⟨i0, hi, hz0, hz1, hz2⟩ : ∃ i, Tryz.prog.info? 3 = some i ∧ i.zero = some (.int .i64 0) ∧ i.size = 1 ∧ i.bytes = 8 := ⟨_, rfl, rfl, rfl, rfl⟩
  obtain ⟨i8, hj0, hy0, hy1, hy2⟩ : ∃ i, Tryz.prog.info? 5 = some i ∧ i.zero = some (.int .u8 0) ∧ i.size = 1 ∧ i.bytes = 1 := ⟨_, rfl, rfl, rfl, rfl⟩
  have HK := Lib.hid hk
  have HS := Lib.hid hs
  have k32 : (key.size : Int) = 32 := by omega
  have k16 : (16 : Int) ≤ key.size := by omega
  have N1 := Lib.hid (fun w => number_any (key.extract 0 16) w (by rw [ByteArray.size_extract]; omega))
  have e1 : (key.extract 0 16).size = 16 := by rw [ByteArray.size_extract]; omega
  have e2 : ls (key.extract 0 16) = (ls key).take 16 := by rw [ls_extract, List.drop_zero]
  rw [e1, e2] at N1
  have N2 := Lib.hid (fun w => number_any (key.extract 16 key.size) w (by rw [ByteArray.size_extract]; omega))
  have e3 : (key.extract 16 key.size).size = 16 := by rw [ByteArray.size_extract]; omega
  have e4 : ls (key.extract 16 key.size) = (ls key).drop 16 := by
    rw [ls_extract, List.take_of_length_le (by rw [List.length_drop, length_ls]; omega)]
  rw [e3, e4] at N2
  have HLV := Lib.hid (show leb ((ls key).take 16) < 340282366920938463463374607431768211456 by
    have := leb_lt ((ls key).take 16)
    rwa [List.length_take, length_ls, hk, show (256 : Nat) ^ min 16 32 = 340282366920938463463374607431768211456 by decide] at this)
  have HLH := Lib.hid (show leb ((ls key).drop 16) < 256 ^ 16 from half_lt key hk)
  have HR := Lib.hid (show tagB key s = bs (nbs 16 (hP (clampN (leb ((ls key).take 16))) (ls s) ((s.size + 15) / 16) + leb ((ls key).drop 16))) from rfl)
  generalize leb ((ls key).take 16) = V at *
  generalize leb ((ls key).drop 16) = H at *
  generalize tagB key s = R at HR ⊢
  clear hk hs e1 e2 e3 e4
  go_enter Tryz.func84, Tryz.ntmps84
  go_wp2_with fail
  refine (N1.out _).mono ?_
  rintro e w1 ⟨hb1, r1, rfl, ho1⟩
  obtain ⟨g1, cp1, rfl, -, -⟩ := ho1.form (by decide)
  have K0 := Lib.hid (show KRt g1 cp1 w (clR V 0) w1 from ⟨by rw [clR_zero]; exact ho1, hb1⟩)
  clear ho1 hb1 N1
  go_wp2_with fail
  go_loopw [6] (fun i wr => ∃ j : Nat, j ≤ 16 ∧ i = .int .i64 j ∧ KRt g1 cp1 w (clR V j) wr) (fun i _ => 16 - (intOf i).toNat)
  case atStart => exact ⟨0, by omega, rfl, K0.out⟩
  case round =>
    obtain ⟨j, hj, rfl, hr⟩ := hrel
    have R1 := Lib.hid hr
    have HJ := Lib.hid hj
    clear hr hj K0
    by_cases hlt : j < 16
    · have j1 : (j : Int) < 16 := by omega
      have j0 : (0 : Int) ≤ (j : Int) := by omega
      have HLT := Lib.hid hlt
      have hg := clR_get V j j hlt
      rw [if_neg (Nat.lt_irrefl j)] at hg
      have ca := R1.out.cell j _ hlt hg
      have fa := R1.out.free j
      have hx := dig_lt 256 (by decide) V j
      have HST := Lib.hid (fun d h => clR_set V j d hlt h)
      clear hg
      obtain ⟨d, hd⟩ : ∃ d, d = V / 256 ^ j % 256 := ⟨_, rfl⟩
      rw [← hd] at ca hx HST
      clear hd
      have d0 : (0 : Int) ≤ (d : Int) := by omega
      have d1 : (d : Int) < 256 := by omega
      by_cases h3 : j % 4 = 3
      · have t1 : (((j : Int) % 4) == 3) = true := by simp; omega
        have t2 : (((j : Int) % 4) == 0) = false := by simp; omega
        have HP := Lib.hid (R1.out.put j (d % 16) (.int .i64 ((d : Int) % 16)) rfl)
        have HST2 := Lib.hid (HST.out (d % 16) (clD_three h3).symm)
        clear h3 hlt hx R1
        go_wp2_with fail
        go_roundw
        case rel => exact ⟨j + 1, HLT.out, by go_num, by rw [← HST2.out]; exact HP.out⟩
        case measure => simp [intOf]; have := HLT.out; omega
      · have t1 : (((j : Int) % 4) == 3) = false := by simp; omega
        by_cases h0 : j % 4 = 0 ∧ 0 < j
        · obtain ⟨h00, h01⟩ := h0
          have t2 : (((j : Int) % 4) == 0) = true := by simp; omega
          have t3 : (j : Int) > 0 := by omega
          have HP := Lib.hid (R1.out.put j (d / 4 * 4) (.int .i64 ((d : Int) / 4 * 4)) (by rw [Int.natCast_mul]; rfl))
          have HST2 := Lib.hid (HST.out (d / 4 * 4) (clD_four h00 h01).symm)
          clear h3 hlt hx R1 h00 h01
          go_wp2_with fail
          go_roundw
          case rel => exact ⟨j + 1, HLT.out, by go_num, by rw [← HST2.out]; exact HP.out⟩
          case measure => simp [intOf]; have := HLT.out; omega
        · have HST2 := Lib.hid (show KRt g1 cp1 w (clR V (j + 1)) wr from by
            rw [← HST.out d (clD_same h3 h0).symm]
            have hg := clR_get V j j hlt
            have e : (clR V j).set j d = clR V j := by
              apply List.ext_getElem?
              intro i
              rw [List.getElem?_set]
              split
              · rename_i e; subst e
                rw [if_pos (by rw [length_clR]; exact hlt)]
                have h1 := R1.out.cell j _ hlt hg
                rw [ca] at h1
                simp only [Option.some.injEq, Value.int.injEq, true_and] at h1
                rw [hg]
                congr 1
                exact_mod_cast h1
              · rfl
            rw [e]; exact R1.out)
          by_cases h00 : j % 4 = 0
          · have t2 : (((j : Int) % 4) == 0) = true := by simp; omega
            have t3 : ¬ (j : Int) > 0 := by omega
            clear h3 hlt hx R1 h00 h0
            go_wp2_with fail
            go_roundw
            case rel => exact ⟨j + 1, HLT.out, by go_num, HST2.out⟩
            case measure => simp [intOf]; have := HLT.out; omega
          · have t2 : (((j : Int) % 4) == 0) = false := by simp; omega
            clear h3 hlt hx R1 h00 h0
            go_wp2_with fail
            go_roundw
            case rel => exact ⟨j + 1, HLT.out, by go_num, HST2.out⟩
            case measure => simp [intOf]; have := HLT.out; omega
    · have j1 : ¬ (j : Int) < 16 := by omega
      have hj16 : j = 16 := by have := HJ.out; omega
      subst hj16
      have R2 := R1.out.own
      rw [clR_end V HLV.out] at R2
      have DR0 := Lib.hid (show ES wr w.heap.size (.slice (some ⟨g1, 0, none⟩) 16 cp1) 16 (clampN V) from ⟨R2, Nat.lt_of_lt_of_le clampN_lt (by decide), by decide, by decide⟩)
      have B0 := Lib.hid R1.out.bel
      clear R1 R2 hlt
      have DH0 := Lib.hid (show ES (wr.alloc (.cells #[.int .i64 0] 3 (0, 0))) 0 (.slice (some ⟨wr.heap.size, 0, none⟩) 1 1) 1 (hP (clampN V) (ls s) 0) from (show ES _ wr.heap.size _ 1 0 from ⟨World.ownsRow_lit (base := wr.heap.size) (e := 3) (size := 1) wr #[.int .i64 0] 1 (Nat.le_refl _) (by decide) rfl, by decide, by decide, by decide⟩).base (Nat.zero_le _))
      have DR1 := Lib.hid (DR0.out.on ((Below.refl wr.heap.size wr).alloc (Nat.le_refl _) (.cells #[.int .i64 0] 3 (0, 0))))
      have B1 := Lib.hid (below_alloc B0.out (.cells #[.int .i64 0] 3 (0, 0)))
      have KZ := Lib.hid (show 1 ≤ 17 by decide)
      clear DR0 B0
      go_wp2_with fail
      generalize wr.alloc (.cells #[.int .i64 0] 3 (0, 0)) = w2 at DH0 DR1 B1 ⊢
      generalize Value.slice (some ⟨wr.heap.size, 0, none⟩) 1 1 = hv0 at DH0 ⊢
      go_loopw [7, 8] (fun hv i wr => ∃ k m : Nat, k ≤ (s.size + 15) / 16 ∧ i = .int .i64 (16 * (k : Int)) ∧ m ≤ 17 ∧ ES wr 0 hv m (hP (clampN V) (ls s) k) ∧ ES wr w.heap.size (.slice (some ⟨g1, 0, none⟩) 16 cp1) 16 (clampN V) ∧ Below w.heap.size w wr) (fun _ i _ => 1000000 - (intOf i).toNat)
      case atStart => exact ⟨0, 1, by omega, rfl, KZ.out, DH0.out, DR1.out, B1.out⟩
      case round =>
        obtain ⟨k, m, hk, rfl, hm, hd, hr, hb⟩ := hrel
        obtain ⟨gh, ch, rfl, -, -⟩ := hd.form
        have D1 := Lib.hid hd
        have DR := Lib.hid hr
        have HB := Lib.hid hb
        have HKK := Lib.hid hk
        have HM := Lib.hid hm
        have sb : (s.size : Int) ≤ 100000 := by have := HS.out; omega
        clear hd hr hb hk hm DH0 DR1 B1 KZ
        by_cases hlt : 16 * k < s.size
        · have j1 : 16 * (k : Int) < s.size := by omega
          have j0 : (0 : Int) ≤ 16 * (k : Int) := by omega
          have e1 : (16 * (k : Int)).toNat = 16 * k := by omega
          have HLT := Lib.hid hlt
          by_cases hfull : 16 * k + 16 ≤ s.size
          case' pos =>
            have q1 : ¬ 16 * (k : Int) + 16 > s.size := by omega
            have q2 : 16 * (k : Int) ≤ 16 * (k : Int) + 16 := by omega
            have q3 : 16 * (k : Int) + 16 ≤ s.size := by omega
            have e2 : (16 * (k : Int) + 16).toNat = 16 * k + 16 := by omega
            have HX := Lib.hid (ext_blk s k (16 * k + 16) (by omega))
            have HXS := Lib.hid (show (s.extract (16 * k) (16 * k + 16)).size = (blkP (ls s) k).length by rw [← ext_blk s k (16 * k + 16) (by omega), length_ls])
            have NX := Lib.hid (fun w => number_any (s.extract (16 * k) (16 * k + 16)) w (by rw [ByteArray.size_extract]; omega))
          case' neg =>
            have q1 : 16 * (k : Int) + 16 > s.size := by omega
            have q2 : 16 * (k : Int) ≤ s.size := by omega
            have q3 : True := trivial
            have e2 : True := trivial
            have HX := Lib.hid (ext_blk s k s.size (by omega))
            have HXS := Lib.hid (show (s.extract (16 * k) s.size).size = (blkP (ls s) k).length by rw [← ext_blk s k s.size (by omega), length_ls])
            have NX := Lib.hid (fun w => number_any (s.extract (16 * k) s.size) w (by rw [ByteArray.size_extract]; omega))
          all_goals
            rw [HX.out, HXS.out] at NX
            have HBL := Lib.hid (show (blkP (ls s) k).length ≤ 16 by unfold blkP; rw [List.length_take]; omega)
            have HDG := Lib.hid (blk_dig (blkP (ls s) k))
            have HBD := Lib.hid (blk_lt (blkP (ls s) k))
            have HHP := Lib.hid (show hP (clampN V) (ls s) (k + 1) = (hP (clampN V) (ls s) k + (leb (blkP (ls s) k) + 256 ^ (blkP (ls s) k).length)) * clampN V % P130 from rfl)
            generalize blkP (ls s) k = bl at NX HBL HDG HBD HHP
            clear hfull hlt HX HXS
            go_wp2_with fail
            refine (NX.out _).mono ?_
            rintro e w3 ⟨hb3, r3, rfl, ho3⟩
            have hs0 : _ ≤ w3.heap.size := hb3.size
            have HB3 := Lib.hid hb3
            have HO3 := Lib.hid ho3
            have HAL := Lib.hid (ho3.alloc (.cells #[.int .i64 1] 3 (0, 0)))
            have HML := Lib.hid (show bl.length + 1 ≤ maxLen by have := HBL.out; unfold maxLen; omega)
            have HMB := Lib.hid (show (bl.length + 1) * 8 ≤ 140737488355328 by have := HBL.out; omega)
            clear hb3 ho3 NX
            go_wp2_with (at_builtin; refine wpList_append_own _ rfl (.tmp 67) (.tmp 68) 105 rfl _ 3 i0 (.int .i64 0) 1 8 Tryz.underlying105 hi hz0 hz1 hz2 rfl (by decide) _ _ _ rfl HAL.out ⟨w3.heap.size, 0, none⟩ 1 1 [.int .i64 (1)] rfl rfl (one_cell w3 _ _) (one_one _ rfl) HML.out HMB.out (le_alloc hs0 _) ?_)
            intro v4 w4 h1 h2 h3
            have HB4 := Lib.hid (below_app HB3.out _ _ _ _ _ HO3.out h2)
            have DB4 := Lib.hid (show ES w4 wr.heap.size v4 (bl.length + 1) (leb bl + 256 ^ bl.length) from ⟨by rw [HDG.out, evs_app]; exact h1, HBD.out, by omega, by have := HBL.out; omega⟩)
            have D4 := Lib.hid (D1.out.on HB4.out)
            have DR4 := Lib.hid (DR.out.on HB4.out)
            have BW4 := Lib.hid (HB.out.trans (HB4.out.mono HB.out.size))
            clear h1 h2 h3 hs0 HAL HML HMB HB3 HO3 D1 DR HB
            go_wp2_with fail
            refine (padd_any m (bl.length + 1) _ _ _ _ _ _ _ D4.out DB4.out).mono ?_
            rintro e w5 ⟨hb5, r5, k2, rfl, p1, p2, p3, p4, ho5⟩
            have HK2 := Lib.hid (show k2 ≤ 18 by have := HBL.out; have := HM.out; omega)
            have D5 := Lib.hid (show ES w5 _ r5 k2 (hP (clampN V) (ls s) k + (leb bl + 256 ^ bl.length)) from ⟨ho5, p4, by omega, by have := HK2.out; omega⟩)
            have DR5 := Lib.hid (DR4.out.on hb5)
            have BW5 := Lib.hid (BW4.out.trans (hb5.mono BW4.out.size))
            clear hb5 ho5 p1 p2 p3 p4 D4 DR4 BW4 DB4
            go_wp2_with fail
            refine (ptimes_any k2 16 _ _ _ _ _ _ _ D5.out DR5.out).mono ?_
            rintro e w6 ⟨hb6, r6, rfl, ho6⟩
            have D6 := Lib.hid (show ES w6 _ r6 (k2 + 16) ((hP (clampN V) (ls s) k + (leb bl + 256 ^ bl.length)) * clampN V) from ⟨ho6, prod_lt_pow D5.out.2.1 DR5.out.2.1 (by decide), by omega, by have := HK2.out; omega⟩)
            have DR6 := Lib.hid (DR5.out.on hb6)
            have BW6 := Lib.hid (BW5.out.trans (hb6.mono BW5.out.size))
            clear hb6 ho6 D5 DR5 BW5
            go_wp2_with fail
            refine (preduce_any (k2 + 16) _ _ _ _ D6.out (by have := HK2.out; omega)).mono ?_
            rintro e w7 ⟨hb7, r7, rfl, hd7⟩
            have D7 := Lib.hid (show ES w7 0 r7 17 (hP (clampN V) (ls s) (k + 1)) from by rw [HHP.out]; exact hd7)
            have DR7 := Lib.hid (DR6.out.on hb7)
            have BW7 := Lib.hid (BW6.out.trans (hb7.mono BW6.out.size))
            clear hb7 hd7 D6 DR6 BW6 HHP HBD HDG
            go_wp2_with fail
            go_roundw
            case rel => exact ⟨k + 1, 17, by have := HLT.out; omega, by go_num, Nat.le_refl _, D7.out, DR7.out, BW7.out⟩
            case measure => simp [intOf]; have := HLT.out; have := HS.out; omega
        · have j1 : ¬ 16 * (k : Int) < s.size := by omega
          have HKN := Lib.hid (show k = (s.size + 15) / 16 by have := HKK.out; omega)
          have D2 := Lib.hid (show ES wr 0 (.slice (some ⟨gh, 0, none⟩) m ch) m (hP (clampN V) (ls s) ((s.size + 15) / 16)) from by rw [← HKN.out]; exact D1.out)
          generalize hP (clampN V) (ls s) ((s.size + 15) / 16) = X at *
          clear D1 HKN HKK hlt DR
          go_wp2_with fail
          ((with_reducible refine (N2.out _).mono ?_))
          rintro e w3 ⟨hb3, r3, rfl, ho3⟩
          have D3 := Lib.hid (D2.out.on hb3)
          have DB3 := Lib.hid (show ES w3 _ r3 16 H from ⟨ho3, HLH.out, by decide, by decide⟩)
          have B3 := Lib.hid (HB.out.trans (hb3.mono HB.out.size))
          clear hb3 ho3 N2 D2 HB
          go_wp2_with fail
          refine (padd_any m 16 _ _ _ _ _ _ _ D3.out DB3.out).mono ?_
          rintro e w4 ⟨hb4, r4, k2, rfl, p1, p2, p3, p4, ho4⟩
          obtain ⟨g4, c4, rfl, -, -⟩ := ho4.form (by omega)
          have HK2 := Lib.hid p2
          have HK3 := Lib.hid (show k2 ≤ 18 by have := HM.out; omega)
          have HO4 := Lib.hid (show ES w4 _ (.slice (some ⟨g4, 0, none⟩) k2 c4) k2 (X + H) from ⟨ho4, p4, by omega, by have := HK3.out; omega⟩)
          have B4 := Lib.hid (B3.out.trans (hb4.mono B3.out.size))
          have HCELL := Lib.hid HO4.out.cells
          have kb : (k2 : Int) ≤ 18 := by have := HK3.out; omega
          clear hb4 ho4 p1 p2 p3 p4 D3 DB3 B3
          generalize X + H = T at *
          have hown0 : w4.ownsRow w4.heap.size 5 1 (.slice none 0 0) 0 (vls (nbs 0 T)) := World.ownsRow_nil _ _ _ _
          have HOWN0 := Lib.hid hown0
          clear hown0
          go_wp2_with fail
          obtain ⟨wo, rfl⟩ : ∃ wo : World, wo = w4 := ⟨_, rfl⟩
          go_loopw [10, 11] (fun v i wr => ∃ j : Nat, j ≤ 16 ∧ i = .int .i64 (j : Int) ∧ wr.ownsRow wo.heap.size 5 1 v j (vls (nbs j T)) ∧ Below wo.heap.size wo wr) (fun _ i _ => 16 - (intOf i).toNat)
          case atStart => exact ⟨0, by omega, rfl, HOWN0.out, Below.refl _ _⟩
          case round =>
            obtain ⟨j, hj, rfl, ho, hb⟩ := hrel
            have HO := Lib.hid ho
            have HBB := Lib.hid hb
            have HJ := Lib.hid hj
            have hs0 : _ ≤ wr.heap.size := hb.size
            clear ho hb hj HOWN0
            by_cases hlt : j < 16
            · have m1 : (j : Int) < 16 := by omega
              have m0 : (0 : Int) ≤ (j : Int) := by omega
              have m2 : (j : Int) < k2 := by have := HK2.out; omega
              have HLT := Lib.hid hlt
              have ca := HCELL.out wr HBB.out j (by have := HK2.out; omega)
              have hx := dig_lt 256 (by decide) T j
              have HTB := Lib.hid (tag_bytes T j)
              obtain ⟨d, hd⟩ : ∃ d, d = T / 256 ^ j % 256 := ⟨_, rfl⟩
              rw [← hd] at ca hx HTB
              clear hd
              have d0 : (0 : Int) ≤ (d : Int) := by omega
              have d1 : (d : Int) < 256 := by omega
              have HVB := Lib.hid (show valB (UInt8.ofNat d) = .int .u8 (d : Int) by
                rw [valB, UInt8.toNat_ofNat', show d % 2 ^ 8 = d by omega])
              have HAL := Lib.hid (HO.out.alloc (.cells #[.int .u8 (d : Int)] 5 (0, 0)))
              have HML := Lib.hid (show j + 1 ≤ maxLen by unfold maxLen; omega)
              have HMB := Lib.hid (show (j + 1) * 1 ≤ 140737488355328 by omega)
              clear hx hlt
              go_wp2_with (at_builtin; refine wpList_append_own _ rfl (.tmp 91) (.tmp 94) 83 rfl _ 5 i8 (.int .u8 0) 1 1 Tryz.underlying83 hj0 hy0 hy1 hy2 rfl (by decide) _ _ _ rfl HAL.out ⟨wr.heap.size, 0, none⟩ 1 1 [.int .u8 (d : Int)] rfl rfl (one_cell wr _ _) (one_one _ rfl) HML.out HMB.out (le_alloc hs0 _) ?_)
              intro v5 w5 h1 h2 h3
              have HB5 := Lib.hid (below_app HBB.out _ _ _ _ _ HO.out h2)
              have HO5 := Lib.hid (show w5.ownsRow wo.heap.size 5 1 v5 (j + 1) (vls (nbs (j + 1) T)) from by rw [HTB.out, vls_app, HVB.out]; exact h1)
              clear h1 h2 h3 hs0
              go_wp2_with fail
              go_roundw
              case rel => exact ⟨j + 1, HLT.out, by go_num, HO5.out, HB5.out⟩
              case measure => simp [intOf]; have := HLT.out; omega
            · have m1 : ¬ (j : Int) < 16 := by omega
              have hj16 : j = 16 := by have := HJ.out; omega
              subst hj16
              obtain ⟨g5, c5, rfl, -, -⟩ := HO.out.form (by decide)
              have hconv := conv_out (nbs 16 T) 16 (length_nbs 16 T) HO.out
              have HFIN := Lib.hid (B4.out.trans (HBB.out.mono B4.out.size))
              clear hlt hs0
              go_wp2_with fail
              go_ret
              exact ⟨by rw [HR.out]; rfl, HFIN.out⟩
end Go.Proofs.YtfckjilhkdlpfaaGreatDoor

namespace Go.Proofs.YtfckjilhkdlpfaaGreatDoor
open Go.RowKit MS
theorem cell_newA (w : World) (x : Value) (T : TypeId) : (w.alloc (.cells #[x] T (0, 0))).cell? ⟨w.heap.size, 0, none⟩ = some x := cell_of_row _ _ _ _ _ _ (MapKept.heap_alloc _ _).1

set_option maxRecDepth 100000 in
set_option maxHeartbeats 1000000 in
theorem rfill_any (s : ByteArray) (w : World) (hs : s.size ≤ 30000) :
    Calls Tryz.prog 85 #[.string s] w fun e w' => e = .returned (.string (bs (alignL (ls s)))) ∧ Below w.heap.size w w' := by
  obtain ⟨i8, hj0, hy0, hy1, hy2⟩ : ∃ i, Tryz.prog.info? 5 = some i ∧ i.zero = some (.int .u8 0) ∧ i.size = 1 ∧ i.bytes = 1 := ⟨_, rfl, rfl, rfl, rfl⟩
  have HS := Lib.hid hs
  have HL := Lib.hid (length_ls s)
  have HZ := Lib.hid (alZ_le s.size)
  have HM := Lib.hid (alZ_mod s.size)
  have HAL := Lib.hid (show alignL (ls s) = ls s ++ List.replicate (alZ s.size) 0 by rw [alignL, length_ls])
  have HML := Lib.hid (show s.size ≤ maxLen by unfold maxLen; omega)
  clear hs
  go_enter Tryz.func85, Tryz.ntmps85
  go_wp2_with (refine wpList_conv_own rfl (.tmp 4) 9 83 5 rfl s rfl Tryz.underlying9 Tryz.underlying83 Tryz.underlying5 w.heap.size s.size rfl (Nat.le_refl _) HML.out ?_)
  intro g0 cap0 w1 h1 h2
  have HO0 := Lib.hid (show ownsF w1 w.heap.size 5 (.slice (some ⟨g0, 0, none⟩) s.size cap0) (s.size + 0) (vls (ls s ++ List.replicate 0 0)) from by rw [List.replicate_zero, List.append_nil]; exact h1)
  have HB0 := Lib.hid h2
  clear h1 h2
  go_wp2_with fail
  go_loopw [3] (fun v wr => ∃ k : Nat, k ≤ alZ s.size ∧ ownsF wr w.heap.size 5 v (s.size + k) (vls (ls s ++ List.replicate k 0)) ∧ Below w.heap.size w wr) (fun v _ => 1000000 - lenA v)
  case atStart => exact ⟨0, Nat.zero_le _, HO0.out, HB0.out⟩
  case round =>
    obtain ⟨k, hk, ho, hb⟩ := hrel
    obtain ⟨g, cap, rfl, hnc, hcm, hgl⟩ := ho.form
    have HO := Lib.hid ho
    have HB := Lib.hid hb
    have HK := Lib.hid hk
    have hs0 : w.heap.size ≤ wr.heap.size := hb.size
    have hm := HM.out k hk
    have HQB := Lib.hid (show s.size + k ≤ 40000 by have := HS.out; have := HZ.out; omega)
    clear ho hb hk HO0 HB0 hnc hcm hgl
    by_cases hlt : k = alZ s.size
    · have m0 : (s.size + k) % 16 = 0 := hm.2 hlt
      have hcv := ownsF_conv (P := Tryz.prog) wr w.heap.size 83 9 5 Tryz.underlying83 Tryz.underlying5 Tryz.underlying9 (l := ls s ++ List.replicate k 0) HO.out 0 (s.size + k) cap (by omega)
      have e1 : ((ls s ++ List.replicate k 0).drop 0).take (s.size + k) = alignL (ls s) := by
        rw [List.drop_zero, List.take_of_length_le (by rw [List.length_append, List.length_replicate, HL.out]; exact Nat.le_refl _), HAL.out, hlt]
      rw [e1] at hcv
      have m1 : ¬ ((s.size + k : Nat) : Int) % 16 > 0 := by omega
      clear hm hlt m0 HM e1
      generalize s.size + k = q at *
      go_wp2_with fail
      go_ret
      exact ⟨rfl, HB.out⟩
    · have m0 : (s.size + k) % 16 ≠ 0 := fun h => hlt (hm.1 h)
      have m1 : ((s.size + k : Nat) : Int) % 16 > 0 := by omega
      have HLT := Lib.hid hlt
      obtain ⟨q, hq⟩ : ∃ q, s.size + k = q := ⟨_, rfl⟩
      rw [hq] at m1 HO HQB ⊢
      have HQ := Lib.hid hq
      have HA := Lib.hid (HO.out.alloc (.cells #[.int .u8 0] 5 (0, 0)))
      have HN := Lib.hid (show q + 1 ≤ 140737488355328 by have := HQB.out; omega)
      clear hm hlt m0 hq HM
      go_wp2_with (at_builtin; refine wpList_append_f _ rfl (.tmp 10) (.tmp 11) 83 rfl w.heap.size 5 i8 (.int .u8 0) Tryz.underlying83 hj0 hy0 hy1 hy2 rfl (.slice (some ⟨g, 0, none⟩) q cap) q (vls (ls s ++ List.replicate k 0)) rfl HA.out ⟨wr.heap.size, 0, none⟩ 1 (.int .u8 0) rfl (cell_newA _ _ _) rfl HN.out (le_alloc hs0 _) ?_)
      intro v2 w2 h1 h2
      have HB2 := Lib.hid ((below_alloc HB.out (.cells #[.int .u8 0] 5 (0, 0))).grown h2 (by rw [World.size_alloc]; omega) (fun m hm => (HO.out.lt m hm).1))
      have HO2 := Lib.hid (show ownsF w2 w.heap.size 5 v2 (s.size + (k + 1)) (vls (ls s ++ List.replicate (k + 1) 0)) from by rw [zeros_app, vls_app, ← Nat.add_assoc, HQ.out]; exact h1)
      have HLEN := Lib.hid (show lenA v2 = q + 1 from by
        obtain ⟨g, cap, e, _⟩ := h1.form
        rw [e]; rfl)
      clear h1 h2 hs0
      go_wp2_with fail
      go_roundw
      case rel => exact ⟨k + 1, by have := HLT.out; have := HK.out; omega, HO2.out, HB2.out⟩
      case measure => rw [HLEN.out]; show 1000000 - (q + 1) < 1000000 - q; have := HQB.out; omega

set_option maxRecDepth 100000 in
set_option maxHeartbeats 1000000 in
theorem rsize_any (s : ByteArray) (w : World) (hs : s.size ≤ 30000) :
    Calls Tryz.prog 86 #[.string s] w fun e w' => e = .returned (.string (bs (nbs 8 s.size))) ∧ Below w.heap.size w w' := by
  obtain ⟨i8, hj0, hy0, hy1, hy2⟩ : ∃ i, Tryz.prog.info? 5 = some i ∧ i.zero = some (.int .u8 0) ∧ i.size = 1 ∧ i.bytes = 1 := ⟨_, rfl, rfl, rfl, rfl⟩
  have HNB := Lib.hid (nbs_next s.size)
  have HDIV := Lib.hid (fun j => show s.size / 256 ^ (j + 1) = s.size / 256 ^ j / 256 from by rw [Nat.pow_succ, Nat.div_div_eq_div_mul])
  have HLE := Lib.hid (fun j => show s.size / 256 ^ j ≤ 30000 from Nat.le_trans (Nat.div_le_self _ _) hs)
  have HO0 := Lib.hid (show w.ownsRow w.heap.size 5 1 (.slice none 0 0) 0 (vls (nbs 0 s.size)) from World.ownsRow_nil _ _ _ _)
  have H0 := Lib.hid (show s.size = s.size / 256 ^ 0 by rw [Nat.pow_zero, Nat.div_one])
  obtain ⟨m, hm⟩ : ∃ m, s.size = m := ⟨_, rfl⟩
  have m1 : (s.size : Int) = (m : Int) := by omega
  rw [hm] at HNB HDIV HLE HO0 H0 ⊢
  have m2 : (m : Int) ≤ 30000 := by omega
  clear hs hm
  go_enter Tryz.func86, Tryz.ntmps86
  go_wp2_with fail
  go_loopw [3, 4, 5] (fun x v i wr => ∃ j : Nat, j ≤ 8 ∧ i = .int .i64 j ∧ x = .int .i64 (m / 256 ^ j : Nat) ∧ wr.ownsRow w.heap.size 5 1 v j (vls (nbs j m)) ∧ Below w.heap.size w wr) (fun _ _ i _ => 8 - (intOf i).toNat)
  case atStart => exact ⟨0, by omega, rfl, by rw [← H0.out], HO0.out, Below.refl _ _⟩
  case round =>
    obtain ⟨j, hj, rfl, rfl, ho, hb⟩ := hrel
    have HO := Lib.hid ho
    have HB := Lib.hid hb
    have hs0 : w.heap.size ≤ wr.heap.size := hb.size
    clear ho hb HO0
    by_cases hlt : j < 8
    · have j1 : (j : Int) < 8 := by omega
      have j0 : (0 : Int) ≤ (j : Int) := by omega
      have HLT := Lib.hid hlt
      have HNX := Lib.hid (HNB.out j)
      have HDX := Lib.hid (HDIV.out j)
      have hle := HLE.out j
      obtain ⟨x, hx⟩ : ∃ x, m / 256 ^ j = x := ⟨_, rfl⟩
      rw [hx] at hle HNX HDX ⊢
      have x1 : (x : Int) ≤ 30000 := by omega
      have x0 : (0 : Int) ≤ (x : Int) := by omega
      have HVB := Lib.hid (show valB (UInt8.ofNat (x % 256)) = .int .u8 ((x : Int) % 256) by rw [valB, UInt8.toNat_ofNat', show x % 256 % 2 ^ 8 = x % 256 by omega]; rfl)
      have HML := Lib.hid (show j + 1 ≤ maxLen by unfold maxLen; omega)
      have HMB := Lib.hid (show (j + 1) * 1 ≤ 140737488355328 by omega)
      have HAL := Lib.hid (HO.out.alloc (.cells #[.int .u8 ((x : Int) % 256)] 5 (0, 0)))
      clear hlt hj hx hle
      go_wp2_with (at_builtin; refine wpList_append_own _ rfl (.tmp 12) (.tmp 16) 83 rfl _ 5 i8 (.int .u8 0) 1 1 Tryz.underlying83 hj0 hy0 hy1 hy2 rfl (by decide) _ _ _ rfl HAL.out ⟨wr.heap.size, 0, none⟩ 1 1 [.int .u8 ((x : Int) % 256)] rfl rfl (one_cell wr _ _) (one_one _ rfl) HML.out HMB.out (le_alloc hs0 _) ?_)
      intro v1 w1 h1 h2 h3
      have HB1 := Lib.hid (below_app HB.out _ _ _ _ _ HO.out h2)
      have HO1 := Lib.hid (show w1.ownsRow w.heap.size 5 1 v1 (j + 1) (vls (nbs (j + 1) m)) from by rw [HNX.out, vls_app, HVB.out]; exact h1)
      clear h1 h2 h3 hs0
      go_wp2_with fail
      go_roundw
      case rel => exact ⟨j + 1, HLT.out, by go_num, by rw [HDX.out]; go_num, HO1.out, HB1.out⟩
      case measure => simp [intOf]; have := HLT.out; omega
    · have j1 : ¬ (j : Int) < 8 := by omega
      have hj8 : j = 8 := by omega
      subst hj8
      clear hlt hj
      obtain ⟨g5, c5, rfl, -, -⟩ := HO.out.form (by decide)
      have hcv := conv_out (nbs 8 m) 8 (length_nbs 8 m) HO.out
      go_wp2_with fail
      go_ret
      exact ⟨rfl, HB.out⟩

set_option maxRecDepth 100000 in
set_option maxHeartbeats 2000000 in
theorem rtagA_any (k n wi text : ByteArray) (w : World) (hk : k.size = 32) (hn : n.size = 12) (hwi : wi.size ≤ 20000) (htx : text.size ≤ 20000) :
    Calls Tryz.prog 58 #[.string k, .string n, .string wi, .string text] w fun e w' => e = .returned (.string (tagA k n wi text)) ∧ Below w.heap.size w w' := by
  have B := Lib.hid (fun w => rblock k n 0 w hk hn)
  rw [wv0] at B
  have F1 := Lib.hid (fun w => rfill_any wi w (by omega))
  have F2 := Lib.hid (fun w => rfill_any text w (by omega))
  have S1 := Lib.hid (fun w => rsize_any wi w (by omega))
  have S2 := Lib.hid (fun w => rsize_any text w (by omega))
  have z1 := alZ_le wi.size
  have z2 := alZ_le text.size
  have e1 : (bs (alignL (ls wi))).size = wi.size + alZ wi.size := by rw [size_bs, length_alignL, length_ls]
  have e2 : (bs (alignL (ls text))).size = text.size + alZ text.size := by rw [size_bs, length_alignL, length_ls]
  have e3 : (bs (nbs 8 wi.size)).size = 8 := by rw [size_bs, length_nbs]
  have e4 : (bs (nbs 8 text.size)).size = 8 := by rw [size_bs, length_nbs]
  have HE := Lib.hid (show bs (alignL (ls wi)) ++ bs (alignL (ls text)) ++ bs (nbs 8 wi.size) ++ bs (nbs 8 text.size) = bs (tagL (ls wi) (ls text)) by
    rw [bs_append, bs_append, bs_append, tagL, length_ls, length_ls])
  have R := Lib.hid (fun w => rtag_any ((blkB (iw k n 0)).extract 0 32) (bs (alignL (ls wi)) ++ bs (alignL (ls text)) ++ bs (nbs 8 wi.size) ++ bs (nbs 8 text.size)) w (by rw [ByteArray.size_extract, size_blkB]; rfl) (by
    rw [ByteArray.size_append, ByteArray.size_append, ByteArray.size_append]; omega))
  have HT := Lib.hid (show tagB ((blkB (iw k n 0)).extract 0 32) (bs (alignL (ls wi)) ++ bs (alignL (ls text)) ++ bs (nbs 8 wi.size) ++ bs (nbs 8 text.size)) = tagA k n wi text by rw [HE.out]; rfl)
  rw [HT.out] at R
  have b1 : ((bs (alignL (ls wi))).size : Int) ≤ 30000 := by omega
  have b2 : ((bs (alignL (ls text))).size : Int) ≤ 30000 := by omega
  have b3 : ((bs (nbs 8 wi.size)).size : Int) = 8 := by omega
  have b4 : ((bs (nbs 8 text.size)).size : Int) = 8 := by omega
  have b5 : ((blkB (iw k n 0)).size : Int) = 64 := by rw [size_blkB]; rfl
  generalize tagA k n wi text = T at *
  generalize blkB (iw k n 0) = bk at *
  generalize bs (alignL (ls wi)) = x1 at *
  generalize bs (alignL (ls text)) = x2 at *
  generalize bs (nbs 8 wi.size) = x3 at *
  generalize bs (nbs 8 text.size) = x4 at *
  have n1 : x1.size + x2.size ≤ 9223372036854775807 := by omega
  have n2 : (x1 ++ x2).size + x3.size ≤ 9223372036854775807 := by rw [ByteArray.size_append]; omega
  have n3 : (x1 ++ x2 ++ x3).size + x4.size ≤ 9223372036854775807 := by rw [ByteArray.size_append, ByteArray.size_append]; omega
  clear hk hn hwi htx z1 z2 e1 e2 e3 e4 HE HT
  go_enter Tryz.func58, Tryz.ntmps58
  go_wp2_with fail
  obtain ⟨W, rfl⟩ : ∃ W : World, W = w := ⟨_, rfl⟩
  refine wp_region_below (by kernel_rfl) (by kernel_rfl) ?_
  repeat (go_big_quiet_step (fail))
  go_big_quiet_step (exact calls_below (B.out _))
  repeat (go_big_quiet_step (fail))
  go_big_quiet_step (exact calls_below (F1.out _))
  repeat (go_big_quiet_step (fail))
  go_big_quiet_step (exact calls_below (F2.out _))
  repeat (go_big_quiet_step (fail))
  go_big_quiet_step (exact calls_below (S1.out _))
  repeat (go_big_quiet_step (fail))
  go_big_quiet_step (exact calls_below (S2.out _))
  repeat (go_big_quiet_step (fail))
  go_big_quiet_step (exact calls_below (R.out _))
  repeat (go_big_quiet_step (fail))
  refine wpQuiet_nil ?_
  rintro _ ⟨p, rfl⟩
  have B9 := Lib.hid p.2
  generalize p.1 = w9 at B9 ⊢
  go_wp2_with fail
  go_ret
  exact ⟨rfl, B9.out⟩
end Go.Proofs.YtfckjilhkdlpfaaGreatDoor

namespace Go.Proofs.YtfckjilhkdlpfaaGreatDoor
open Go.RowKit MS
set_option maxRecDepth 100000 in
set_option maxHeartbeats 1000000 in
theorem rsealA_any (k n wi s : ByteArray) (w : World) (hk : k.size = 32) (hn : n.size = 12) (hwi : wi.size ≤ 10000) (hs : s.size ≤ 10000) :
    Calls Tryz.prog 32 #[.string k, .string n, .string wi, .string s] w fun e w' => e = .returned (.string (sealA k n wi s)) ∧ Below w.heap.size w w' := by
  have T := Lib.hid (fun w => rturn k n 1 s w hk hn hs)
  rw [wv1, show bs (trn (ls s) (ks k n 1)) = trnA k n s from rfl] at T
  have G := Lib.hid (fun w => rtagA_any k n wi (trnA k n s) w hk hn (by omega) (by rw [size_trnA]; omega))
  have HS := Lib.hid (show sealA k n wi s = trnA k n s ++ tagA k n wi (trnA k n s) from rfl)
  have s1 : ((tagA k n wi (trnA k n s)).size : Int) = 16 := by rw [size_tagA]; rfl
  have s2 : ((trnA k n s).size : Int) ≤ 20000 := by rw [size_trnA]; omega
  rw [HS.out]
  generalize tagA k n wi (trnA k n s) = t at *
  generalize trnA k n s = x at *
  clear hk hn hwi hs HS
  go_enter Tryz.func32, Tryz.ntmps32
  go_wp2_with fail
  refine (T.out _).mono ?_
  rintro e w1 ⟨rfl, hb1⟩
  have B1 := Lib.hid hb1
  clear hb1
  go_wp2_with fail
  refine (G.out _).mono ?_
  rintro e w2 ⟨rfl, hb2⟩
  have B2 := Lib.hid (B1.out.trans (hb2.mono B1.out.size))
  clear hb2
  go_wp2_with fail
  go_ret
  exact ⟨rfl, B2.out⟩

theorem toList_ne {a b : ByteArray} (h : a ≠ b) : (a.toList == b.toList) = false := by
  rw [beq_eq_false_iff_ne]
  intro e
  apply h
  apply ls_inj
  rw [ByteArray.toList_eq, ByteArray.toList_eq] at e
  exact e
def ropenV (o : Option ByteArray) : Value := match o with
  | some s => .tuple #[.string s, .bool true]
  | none => .tuple #[.string ⟨#[]⟩, .bool false]

set_option maxRecDepth 100000 in
set_option maxHeartbeats 2000000 in
theorem ropenA_any (k n wi box : ByteArray) (w : World) (hk : k.size = 32) (hn : n.size = 12) (hwi : wi.size ≤ 10000) (hs : box.size ≤ 10000) :
    Calls Tryz.prog 41 #[.string k, .string n, .string wi, .string box] w fun e w' => e = .returned (ropenV (openA k n wi box)) ∧ Below w.heap.size w w' := by
  by_cases h16 : box.size < 16
  · have HO := Lib.hid (show ropenV (openA k n wi box) = .tuple #[.string ⟨#[]⟩, .bool false] by rw [openA, if_pos h16]; rfl)
    have q0 : (box.size : Int) - 16 < 0 := by omega
    have q1 : (0 : Int) ≤ (box.size : Int) := by omega
    rw [HO.out]
    clear hk hn hwi hs h16
    go_enter Tryz.func41, Tryz.ntmps41
    go_upto_region 2 with fail
    refine wp_region_below (by kernel_rfl) (by kernel_rfl) ?_
    repeat (go_big_quiet_step (fail))
    refine wpQuiet_nil ?_
    rintro _ ⟨p, rfl⟩
    have B9 := Lib.hid p.2
    generalize p.1 = w9 at B9 ⊢
    go_wp2_with fail
    go_ret2
    exact ⟨rfl, B9.out⟩
  · have HO := Lib.hid (show openA k n wi box = if tagA k n wi (box.extract 0 (box.size - 16)) = box.extract (box.size - 16) box.size then some (trnA k n (box.extract 0 (box.size - 16))) else none by rw [openA, if_neg h16])
    obtain ⟨m, hm⟩ : ∃ m, box.size - 16 = m := ⟨_, rfl⟩
    rw [hm] at HO
    have hx : (box.extract 0 m).size = m := by rw [ByteArray.size_extract]; omega
    have T := Lib.hid (fun w => rturn k n 1 (box.extract 0 m) w hk hn (by omega))
    rw [wv1, show bs (trn (ls (box.extract 0 m)) (ks k n 1)) = trnA k n (box.extract 0 m) from rfl] at T
    have G := Lib.hid (fun w => rtagA_any k n wi (box.extract 0 m) w hk hn (by omega) (by omega))
    have e0 : (box.size : Int) - 16 = (m : Int) := by omega
    have e2 : (0 : Int) ≤ (m : Int) := by omega
    have e3 : (m : Int) ≤ (box.size : Int) := by omega
    have e4 : (box.size : Int) ≤ 20000 := by omega
    have e5 : ¬ (m : Int) < 0 := by omega
    generalize trnA k n (box.extract 0 m) = x at *
    have HOV := Lib.hid (show ropenV (openA k n wi box) = if tagA k n wi (box.extract 0 m) = box.extract m box.size then .tuple #[.string x, .bool true] else .tuple #[.string ⟨#[]⟩, .bool false] by rw [HO.out]; split <;> rfl)
    generalize tagA k n wi (box.extract 0 m) = tg at *
    obtain ⟨xt, hxt⟩ : ∃ t, box.extract m box.size = t := ⟨_, rfl⟩
    rw [hxt] at HOV
    clear hk hn hwi hs h16 hm hx HO
    go_enter Tryz.func41, Tryz.ntmps41
    go_upto_region 2 with fail
    clear e0
    by_cases ht : tg = xt
    · have HO2 := Lib.hid (show ropenV (openA k n wi box) = .tuple #[.string x, .bool true] by rw [HOV.out, if_pos ht])
      subst ht
      refine wp_region_below (by kernel_rfl) (by kernel_rfl) ?_
      repeat (go_big_quiet_step (fail))
      go_big_quiet_step (exact calls_below (G.out _))
      repeat (go_big_quiet_step (fail))
      refine wpQuiet_nil ?_
      rintro _ ⟨p, rfl⟩
      have B9 := Lib.hid p.2
      generalize p.1 = w9 at B9 ⊢
      go_wp2_with fail
      refine (T.out _).mono ?_
      rintro e w3 ⟨rfl, hb3⟩
      have B3 := Lib.hid (B9.out.trans (hb3.mono B9.out.size))
      clear hb3
      go_wp2_with fail
      go_ret2
      exact ⟨by rw [HO2.out]; rfl, B3.out⟩
    · have HO2 := Lib.hid (show ropenV (openA k n wi box) = .tuple #[.string ⟨#[]⟩, .bool false] by rw [HOV.out, if_neg ht])
      have tb := toList_ne ht
      refine wp_region_below (by kernel_rfl) (by kernel_rfl) ?_
      repeat (go_big_quiet_step (fail))
      go_big_quiet_step (exact calls_below (G.out _))
      repeat (go_big_quiet_step (fail))
      refine wpQuiet_nil ?_
      rintro _ ⟨p, rfl⟩
      have B9 := Lib.hid p.2
      generalize p.1 = w9 at B9 ⊢
      go_wp2_with fail
      go_ret2
      exact ⟨by rw [HO2.out]; rfl, B9.out⟩

end Go.Proofs.YtfckjilhkdlpfaaGreatDoor

namespace Go.Proofs.YtfckjilhkdlpfaaGreatDoor
open Go.RowKit MS
theorem xor_ne {x y : UInt8} (h : y ≠ 0) : x ^^^ y ≠ x := by
  intro e
  apply h
  have : x ^^^ (x ^^^ y) = x ^^^ x := by rw [e]
  rwa [← UInt8.xor_assoc, UInt8.xor_self, UInt8.zero_xor] at this
/-- The tag turned at one place. -/
def turnB (b : ByteArray) (p : Nat) (y : UInt8) : ByteArray := bs ((ls b).set p ((ls b).getD p 0 ^^^ y))
theorem turnB_open (k n wi s : ByteArray) (p : Nat) (y : UInt8) (hp : s.size ≤ p) (hp2 : p < s.size + 16) (hy : y ≠ 0) : openA k n wi (turnB (sealA k n wi s) p y) = none := by
  have hz := size_sealA k n wi s
  generalize hb : sealA k n wi s = b at *
  have hl := length_ls b
  have hx : (turnB b p y).size = s.size + 16 := by rw [turnB, size_bs, List.length_set, hl, hz]
  refine open_other k n wi s _ hx ?_ ?_
  · rw [hb]
    apply ls_inj
    rw [ls_extract, ls_extract, turnB, ls_bs, List.drop_zero, List.drop_zero, Nat.sub_zero]
    apply List.ext_getElem?
    intro i
    rw [List.getElem?_take, List.getElem?_take]
    by_cases h : i < s.size
    · rw [if_pos h, if_pos h, List.getElem?_set, if_neg (by omega)]
    · rw [if_neg h, if_neg h]
  · rw [hb]
    intro e
    have e2 := congrArg (fun t => (ls t)[p]?) e
    simp only [turnB, ls_bs] at e2
    rw [List.getElem?_set, if_pos rfl, if_pos (by omega), List.getD_eq_getElem?_getD, List.getElem?_eq_getElem (by omega), Option.getD_some] at e2
    exact xor_ne hy (Option.some.inj e2)

end Go.Proofs.YtfckjilhkdlpfaaGreatDoor

namespace MS
/-- The class of n bytes. -/
def clsN (n : Nat) : Nat := if n ≤ 126 then 128 else if n ≤ 254 then 256 else if n ≤ 510 then 512 else 704
def clsI (n : Int) : Nat := if n < 0 ∨ n > 700 then 0 else clsN n.toNat
theorem clsI_nat (n : Nat) (h : n ≤ 700) : clsI (n : Int) = clsN n := by rw [clsI, if_neg (by omega), Int.toNat_natCast]
theorem clsI_big (n : Int) (h : n < 0 ∨ n > 700) : clsI n = 0 := if_pos h
theorem clsN_ge (n : Nat) (h : n ≤ 700) : n + 2 ≤ clsN n := by unfold clsN; split <;> (try split) <;> (try split) <;> omega
theorem clsN_cases (n : Nat) : clsN n = 128 ∨ clsN n = 256 ∨ clsN n = 512 ∨ clsN n = 704 := by unfold clsN; split <;> (try split) <;> (try split) <;> simp
theorem clsN_mono (a b : Nat) (h : a ≤ b) : clsN a ≤ clsN b := by unfold clsN; (repeat' split) <;> omega
theorem clsN_le (n : Nat) : clsN n ≤ 704 := by rcases clsN_cases n with h | h | h | h <;> omega
/-- Padded. -/
def spadL (l : List UInt8) : List UInt8 := UInt8.ofNat (l.length % 256) :: UInt8.ofNat (l.length / 256) :: (l ++ List.replicate (clsN l.length - 2 - l.length) 0)
theorem length_spadL (l : List UInt8) (h : l.length ≤ 700) : (spadL l).length = clsN l.length := by
  have := clsN_ge l.length h
  simp [spadL]; omega
def spadB (s : ByteArray) : ByteArray := bs (spadL (ls s))
theorem size_spadB (s : ByteArray) (h : s.size ≤ 700) : (spadB s).size = clsN s.size := by
  rw [spadB, size_bs, length_spadL _ (by rw [length_ls]; exact h), length_ls]
/-- What was padded. -/
def lenB (s : ByteArray) : Nat := ((ls s).getD 0 0).toNat + 256 * ((ls s).getD 1 0).toNat
def unpadB (s : ByteArray) : Option ByteArray :=
  if s.size < 2 ∨ 700 < lenB s ∨ clsN (lenB s) ≠ s.size then none
  else if (ls s).drop (2 + lenB s) = List.replicate (s.size - (2 + lenB s)) 0 then some (s.extract 2 (2 + lenB s)) else none
theorem pad_len (s : ByteArray) (h : s.size ≤ 700) : lenB (spadB s) = s.size := by
  have hl := length_ls s
  unfold lenB spadB
  rw [ls_bs, spadL]
  show (UInt8.ofNat ((ls s).length % 256)).toNat + 256 * (UInt8.ofNat ((ls s).length / 256)).toNat = s.size
  rw [UInt8.toNat_ofNat', UInt8.toNat_ofNat', hl]
  omega
theorem unpad_pad (s : ByteArray) (h : s.size ≤ 700) : unpadB (spadB s) = some s := by
  have hl := length_ls s
  have h1 := pad_len s h
  have h2 := size_spadB s h
  have h3 := clsN_ge s.size h
  rw [unpadB, h1, h2, if_neg (by omega)]
  have e1 : (ls (spadB s)).drop (2 + s.size) = List.replicate (clsN s.size - (2 + s.size)) 0 := by
    rw [spadB, ls_bs, spadL, Nat.add_comm, List.drop_succ_cons, List.drop_succ_cons, List.drop_left' hl, hl]
    congr 1
    omega
  rw [if_pos e1]
  congr 1
  apply ls_inj
  rw [ls_extract, spadB, ls_bs, spadL, List.drop_succ_cons, List.drop_succ_cons, List.drop_zero, Nat.add_sub_cancel_left, List.take_left' hl]
/-- It is what was padded, just if, padded, it is the whole. -/
theorem unpad_some (s : ByteArray) (n : Nat) (hn : n = lenB s) (h2 : n + 2 ≤ s.size) (h7 : n ≤ 700) : spadB (s.extract 2 (2 + n)) = s ↔ clsN n = s.size ∧ (ls s).drop (2 + n) = List.replicate (s.size - (2 + n)) 0 := by
  have hl := length_ls s
  have hz : (s.extract 2 (2 + n)).size = n := by rw [ByteArray.size_extract]; omega
  have hls : ls (s.extract 2 (2 + n)) = ((ls s).drop 2).take n := by rw [ls_extract, Nat.add_sub_cancel_left]
  constructor
  · intro h
    have h3 := size_spadB (s.extract 2 (2 + n)) (by omega)
    rw [h, hz] at h3
    refine ⟨h3.symm, ?_⟩
    conv => lhs; rw [← h]
    have ed : ∀ (a b : UInt8) (t : List UInt8), (a :: b :: t).drop (2 + n) = t.drop n := fun a b t => by rw [Nat.add_comm, List.drop_succ_cons, List.drop_succ_cons]
    rw [spadB, ls_bs, spadL, ed, List.drop_left' (by rw [length_ls, hz]), length_ls, hz]
    congr 1
    omega
  · rintro ⟨h3, h4⟩
    apply ls_inj
    rw [spadB, ls_bs, spadL, length_ls, hz, hls]
    obtain ⟨a, b, t, hs⟩ : ∃ a b t, ls s = a :: b :: t := by
      cases h : ls s with
      | nil => rw [h] at hl; simp at hl; omega
      | cons a t =>
        cases t with
        | nil => rw [h] at hl; simp at hl; omega
        | cons b t => exact ⟨a, b, t, rfl⟩
    have hn' : n = a.toNat + 256 * b.toNat := by rw [hn, lenB, hs]; rfl
    have ha := a.toNat_lt
    have hb := b.toNat_lt
    rw [hs] at h4 ⊢
    rw [Nat.add_comm, List.drop_succ_cons, List.drop_succ_cons] at h4
    rw [List.drop_succ_cons, List.drop_succ_cons, List.drop_zero]
    have e1 : UInt8.ofNat (n % 256) = a := UInt8.toNat_inj.1 (by rw [UInt8.toNat_ofNat']; omega)
    have e2 : UInt8.ofNat (n / 256) = b := UInt8.toNat_inj.1 (by rw [UInt8.toNat_ofNat']; omega)
    rw [e1, e2]
    congr 2
    have e3 : clsN n - 2 - n = s.size - (2 + n) := by omega
    rw [e3, show s.size - (2 + n) = s.size - (n + 2) by omega, ← h4, List.take_append_drop]
theorem unpad_is {s t : ByteArray} (h : unpadB s = some t) : t = s.extract 2 (2 + lenB s) ∧ t.size = lenB s ∧ lenB s ≤ 700 := by
  unfold unpadB at h
  split at h
  · cases h
  · split at h
    · cases h
      rename_i h1 _
      have := clsN_ge (lenB s) (by omega)
      refine ⟨rfl, ?_, by omega⟩
      rw [ByteArray.size_extract]
      omega
    · cases h
end MS

namespace Go.Proofs.YtfckjilhkdlpfaaGreatDoor
open Go.RowKit MS
theorem beq48 (a : Nat) : ((a : Int) == 48) = (a == 48) := beq_cast a 48

/-- What is right for salt, nonce and rounds. -/
def rwB (s n : ByteArray) (r : Int) : Bool := s.size == 16 && n.size == 12 && decide (1 ≤ r) && decide (r ≤ 64)

set_option maxHeartbeats 400000 in
theorem rightWrap_any (s n p : ByteArray) (r : Int) (w : World) :
    Calls Tryz.prog 27 #[.agg #[.string s, .string n, .string p, .int .i64 r]] w fun e w' => e = .returned (.bool (rwB s n r)) ∧ Below w.heap.size w w' := by
  go_enter Tryz.func27, Tryz.ntmps27
  go_wp2
  all_goals
    go_ret
    refine ⟨?_, (Below.refl _ _).alloc (Nat.le_refl _) _⟩
    unfold rwB
    simp [*]
    try omega

/-- A user's letter. -/
def letB (c : UInt8) : Bool := (decide (97 ≤ c.toNat) && decide (c.toNat ≤ 122)) || (decide (48 ≤ c.toNat) && decide (c.toNat ≤ 57))
def usrB (s : ByteArray) : Bool := decide (1 ≤ s.size) && decide (s.size ≤ 8) && s.data.toList.all letB
theorem let_cases (c : UInt8) :
    (letB c = false ∧ decide (97 ≤ (c.toNat : Int)) = false ∧ decide ((c.toNat : Int) ≤ 122) = true ∧ decide (48 ≤ (c.toNat : Int)) = false ∧ decide ((c.toNat : Int) ≤ 57) = true) ∨
    (letB c = true ∧ decide (97 ≤ (c.toNat : Int)) = false ∧ decide ((c.toNat : Int) ≤ 122) = true ∧ decide (48 ≤ (c.toNat : Int)) = true ∧ decide ((c.toNat : Int) ≤ 57) = true) ∨
    (letB c = false ∧ decide (97 ≤ (c.toNat : Int)) = false ∧ decide ((c.toNat : Int) ≤ 122) = true ∧ decide (48 ≤ (c.toNat : Int)) = true ∧ decide ((c.toNat : Int) ≤ 57) = false) ∨
    (letB c = true ∧ decide (97 ≤ (c.toNat : Int)) = true ∧ decide ((c.toNat : Int) ≤ 122) = true ∧ decide (48 ≤ (c.toNat : Int)) = true ∧ decide ((c.toNat : Int) ≤ 57) = false) ∨
    (letB c = false ∧ decide (97 ≤ (c.toNat : Int)) = true ∧ decide ((c.toNat : Int) ≤ 122) = false ∧ decide (48 ≤ (c.toNat : Int)) = true ∧ decide ((c.toNat : Int) ≤ 57) = false) := by
  have e : letB c = decide ((97 ≤ c.toNat ∧ c.toNat ≤ 122) ∨ (48 ≤ c.toNat ∧ c.toNat ≤ 57)) := by unfold letB; simp
  rw [e]
  simp only [decide_eq_true_eq, decide_eq_false_iff_not]
  omega
theorem usr_short {s : ByteArray} (h : s.size < 1) : usrB s = false := by unfold usrB; simp; omega
theorem usr_long {s : ByteArray} (h : 8 < s.size) : usrB s = false := by unfold usrB; simp; omega
theorem usr_no {s : ByteArray} (k : Nat) (h : k < s.size) (hl : letB s[k] = false) : usrB s = false := by
  unfold usrB
  have hk : k < s.data.size := h
  have : s.data.toList.all letB = false := by
    rw [List.all_eq_false]
    exact ⟨s[k], by simp [ByteArray.getElem_eq_getElem_data], by simp [hl]⟩
  simp [this]
theorem usr_yes {s : ByteArray} (h1 : 1 ≤ s.size) (h8 : s.size ≤ 8) (h : (s.data.toList.take s.size).all letB = true) : usrB s = true := by
  rw [List.take_of_length_le (by simp)] at h
  unfold usrB
  simp only [h, Bool.and_true, Bool.and_eq_true, decide_eq_true_eq]
  exact ⟨h1, h8⟩
theorem all_snoc {s : ByteArray} (k : Nat) (hk : k < s.size) (h : (s.data.toList.take k).all letB = true) (hl : letB s[k] = true) : (s.data.toList.take (k + 1)).all letB = true := by
  rw [take_snoc s k hk, List.all_append, h]; simp [hl]

set_option maxHeartbeats 400000 in
theorem rightUser_any (s : ByteArray) (w : World) :
    Calls Tryz.prog 26 #[.string s] w fun e w' => e = .returned (.bool (usrB s)) ∧ w = w' := by
  by_cases h1 : s.size < 1
  · have t1 : decide ((s.size : Int) < 1) = true := by simp; omega
    go_enter Tryz.func26, Tryz.ntmps26
    go_wp2
    go_ret
    exact ⟨by rw [usr_short h1]; rfl, rfl⟩
  · have t1 : decide ((s.size : Int) < 1) = false := by simp; omega
    by_cases h2 : 8 < s.size
    · have t2 : decide ((8 : Int) < s.size) = true := by simp; omega
      go_enter Tryz.func26, Tryz.ntmps26
      go_wp2
      go_ret
      exact ⟨by rw [usr_long h2]; rfl, rfl⟩
    · have t2 : decide ((8 : Int) < s.size) = false := by simp; omega
      go_enter Tryz.func26, Tryz.ntmps26
      go_wp2
      go_loop [14] (fun c => ∃ k : Nat, k ≤ s.size ∧ c = .int .i64 k ∧ (s.data.toList.take k).all letB = true) (fun c => s.size - (intOf c).toNat)
      case atStart => exact ⟨0, Nat.zero_le _, rfl, rfl⟩
      case round =>
        obtain ⟨k, hk, rfl, hall⟩ := hrel
        have HA := Lib.hid hall
        clear hall
        by_cases hlt : k < s.size
        · go_wp2
          all_goals first
            | (go_ret; exact ⟨by rw [usr_no k hlt (by unfold letB; simp; omega)]; rfl, rfl⟩)
            | (go_round; (case rel => exact ⟨k + 1, by omega, by go_num, all_snoc k hlt HA.out (by unfold letB; simp; omega)⟩); (case measure => simp [intOf]; omega))
        · go_wp2
          go_ret
          exact ⟨by rw [usr_yes (by omega) (by omega) (by have := HA.out; rwa [show k = s.size by omega] at this)]; rfl, rfl⟩

set_option maxHeartbeats 400000 in
theorem refUser_any (s : ByteArray) (hs : s.size ≤ 1000) (w : World) :
    Calls Tryz.prog 56 #[.string s] w fun e w' => e = .returned (.bool (usrB s)) ∧ w = w' := by
  go_enter Tryz.func56, Tryz.ntmps56
  go_wp2
  go_loop [3] (fun c => ∃ k : Nat, k ≤ s.size ∧ c = .int .i64 k ∧ (s.data.toList.take k).all letB = true) (fun c => s.size - (intOf c).toNat)
  case atStart => exact ⟨0, Nat.zero_le _, rfl, rfl⟩
  case round =>
    obtain ⟨k, hk, rfl, hall⟩ := hrel
    have HA := Lib.hid hall
    clear hall
    by_cases hlt : k < s.size
    · rcases let_cases s[k] with ⟨hl, t1, t2, t3, t4⟩ | ⟨hl, t1, t2, t3, t4⟩ | ⟨hl, t1, t2, t3, t4⟩ | ⟨hl, t1, t2, t3, t4⟩ | ⟨hl, t1, t2, t3, t4⟩
      all_goals
        have HL := Lib.hid hl
        clear hl
        go_wp2
      · go_ret
        exact ⟨by rw [usr_no k hlt HL.out]; rfl, rfl⟩
      · go_round
        case rel => exact ⟨k + 1, by omega, by go_num, all_snoc k hlt HA.out HL.out⟩
        case measure => simp [intOf]; omega
      · go_ret
        exact ⟨by rw [usr_no k hlt HL.out]; rfl, rfl⟩
      · go_round
        case rel => exact ⟨k + 1, by omega, by go_num, all_snoc k hlt HA.out HL.out⟩
        case measure => simp [intOf]; omega
      · go_ret
        exact ⟨by rw [usr_no k hlt HL.out]; rfl, rfl⟩
    · have hu : usrB s = (decide (0 < s.size) && decide (s.size < 9)) := by
        have hA := HA.out
        rw [show k = s.size by omega, List.take_of_length_le (by simp)] at hA
        unfold usrB
        rw [hA, Bool.and_true]
        congr 1 <;> (apply decide_eq_decide.2; omega)
      have HU := Lib.hid hu
      clear hu
      go_wp2
      all_goals
        go_ret
        refine ⟨?_, rfl⟩
        rw [HU.out]
        simp [*]
        try omega

/-- An account's cells. -/
structure Acc where
  user : ByteArray
  salt : ByteArray
  rounds : Int
  epoch : Int
  pub : ByteArray
  nonce : ByteArray
  wrapped : ByteArray
  old : ByteArray
def Acc.v (a : Acc) : Value := .agg #[.string a.user, .string a.salt, .int .i64 a.rounds, .int .i64 a.epoch, .string a.pub, .string a.nonce, .string a.wrapped, .string a.old]
def Acc.ok (a : Acc) : Bool :=
  usrB a.user && rwB a.salt a.nonce a.rounds && (a.epoch == 0 || a.epoch == 1) && a.pub.size == 32 && a.wrapped.size == 48 && (a.old.size == 0 || a.old.size == 48)

set_option maxHeartbeats 400000 in
theorem right_any (a : Acc) (w : World) :
    Calls Tryz.prog 34 #[a.v] w fun e w' => e = .returned (.bool a.ok) ∧ Below w.heap.size w w' := by
  obtain ⟨user, salt, rounds, epoch, pub, nonce, wrapped, old⟩ := a
  unfold Acc.v
  simp only
  go_enter Tryz.func34, Tryz.ntmps34
  go_wp2_with (first
    | (go_at_call 26; refine (rightUser_any _ _).mono ?_; rintro e w' ⟨rfl, rfl⟩)
    | (go_at_call 27; refine (rightWrap_any _ _ _ _ _).mono ?_; rintro e w' ⟨rfl, hb⟩; obtain ⟨hc, hf⟩ := bcell hb))
  all_goals
    go_ret
    refine ⟨?_, ?_⟩
    · unfold Acc.ok
      simp only [toList_nil] at *
      simp [isEmpty_size, beq48, *]
      try omega
    · first
        | exact (Below.refl _ _).alloc (Nat.le_refl _) _
        | exact ((Below.refl _ _).alloc (Nat.le_refl _) _).trans (hb.mono (by simp))
end Go.Proofs.YtfckjilhkdlpfaaGreatDoor

namespace Go.Proofs.YtfckjilhkdlpfaaGreatDoor
open Go.RowKit MS
set_option maxHeartbeats 400000 in
theorem refRight_any (a : Acc) (hs : a.user.size ≤ 1000) (w : World) :
    Calls Tryz.prog 39 #[a.v] w fun e w' => e = .returned (.bool a.ok) ∧ Below w.heap.size w w' := by
  obtain ⟨user, salt, rounds, epoch, pub, nonce, wrapped, old⟩ := a
  simp only at hs
  unfold Acc.v
  simp only
  go_enter Tryz.func39, Tryz.ntmps39
  go_wp2_with (go_at_call 56; refine (refUser_any _ hs _).mono ?_; rintro e w' ⟨rfl, rfl⟩)
  all_goals
    go_ret
    refine ⟨?_, (Below.refl _ _).alloc (Nat.le_refl _) _⟩
    unfold Acc.ok rwB
    simp only [size_empty] at *
    simp [beq0, beq48, *]
    try omega

set_option maxHeartbeats 400000 in
theorem refAcc_any (a : Acc) (w : World) :
    Calls Tryz.prog 12 #[a.v] w fun e w' => e = .returned a.v ∧ Below w.heap.size w w' := by
  obtain ⟨user, salt, rounds, epoch, pub, nonce, wrapped, old⟩ := a
  unfold Acc.v
  simp only
  go_enter Tryz.func12, Tryz.ntmps12
  go_wp2
  refine bodyPost_ret (v := .agg #[.string user, .string salt, .int .i64 rounds, .int .i64 epoch, .string pub, .string nonce, .string wrapped, .string old]) (by simp [results, Tryz.results12, go_sem]) rfl ⟨rfl, ?_⟩
  exact ((Below.refl _ _).alloc (Nat.le_refl _) _).alloc (by simp) _

set_option maxHeartbeats 400000 in
theorem finish_any (a : Acc) (w : World) :
    Calls Tryz.prog 15 #[a.v] w fun e w' => e = .returned ({ a with old := bs [] } : Acc).v ∧ Below w.heap.size w w' := by
  obtain ⟨user, salt, rounds, epoch, pub, nonce, wrapped, old⟩ := a
  unfold Acc.v
  simp only
  go_enter Tryz.func15, Tryz.ntmps15
  go_wp2
  refine bodyPost_ret (v := .agg #[.string user, .string salt, .int .i64 rounds, .int .i64 epoch, .string pub, .string nonce, .string wrapped, .string (bs [])]) (by simp [results, Tryz.results15, go_sem, bs]) rfl ⟨rfl, ?_⟩
  exact ((Below.refl _ _).alloc (Nat.le_refl _) _).alloc (by simp) _

/-- What stands for an account. -/
def Acc.put (a : Acc) : ByteArray :=
  bs [UInt8.ofNat a.user.size] ++ a.user ++ a.salt ++ bs [UInt8.ofNat a.rounds.toNat, UInt8.ofNat a.epoch.toNat] ++ a.pub ++ a.nonce ++ a.wrapped ++ a.old

structure Acc.fits (a : Acc) : Prop where
  user : usrB a.user = true
  u8 : a.user.size ≤ 8
  salt : a.salt.size = 16
  r1 : 1 ≤ a.rounds
  r2 : a.rounds ≤ 64
  e : a.epoch = 0 ∨ a.epoch = 1
  pub : a.pub.size = 32
  nonce : a.nonce.size = 12
  wrapped : a.wrapped.size = 48
  old : a.old.size = 0 ∨ a.old.size = 48
theorem Acc.fits_of {a : Acc} (h : a.ok = true) : a.fits := by
  unfold Acc.ok rwB at h
  simp only [Bool.and_eq_true, Bool.or_eq_true, beq_iff_eq, decide_eq_true_eq] at h
  obtain ⟨⟨⟨⟨⟨h1, ⟨⟨h2, h3⟩, h4⟩, h5⟩, h6⟩, h7⟩, h8⟩, h9⟩ := h
  have h1' := h1
  unfold usrB at h1'
  simp only [Bool.and_eq_true, decide_eq_true_eq] at h1'
  exact ⟨h1, h1'.1.2, h2, h4, h5, h6, h7, h3, h8, h9⟩

set_option maxHeartbeats 400000 in
theorem put_no (a : Acc) (hk : a.ok = false) (w : World) :
    Calls Tryz.prog 24 #[a.v] w fun e w' => e = .returned (.tuple #[.string (bs []), .int .i64 1]) ∧ Below w.heap.size w w' := by
  have hr := right_any a
  obtain ⟨user, salt, rounds, epoch, pub, nonce, wrapped, old⟩ := a
  rw [hk] at hr
  unfold Acc.v at *
  simp only at *
  have HR := Lib.hid hr
  clear hr hk
  go_enter Tryz.func24, Tryz.ntmps24
  go_wp2_with (go_at_call 34; refine (HR.out _).mono ?_; rintro e w' ⟨rfl, hb⟩; obtain ⟨hc, hf⟩ := bcell hb; have hz : w.heap.size < w'.heap.size := by (have := hb.size; simp at this; omega))
  go_ret2
  exact ⟨rfl, ((Below.refl _ _).alloc (Nat.le_refl _) _).trans (hb.mono (by simp))⟩

set_option maxHeartbeats 400000 in
theorem put_yes (a : Acc) (hk : a.ok = true) (w : World) :
    Calls Tryz.prog 24 #[a.v] w fun e w' => e = .returned (.tuple #[.string a.put, .int .i64 0]) ∧ Below w.heap.size w w' := by
  have hr := right_any a
  have hft := Acc.fits_of hk
  obtain ⟨user, salt, rounds, epoch, pub, nonce, wrapped, old⟩ := a
  obtain ⟨h1, h2, h3, h4, h5, h6, h7, h8, h9, h10⟩ := hft
  rw [hk] at hr
  unfold Acc.v at *
  simp only at *
  have HR := Lib.hid hr
  clear hr hk
  have k1 := run_one_int (P := Tryz.prog) 83 9 5 Tryz.underlying83 Tryz.underlying5 Tryz.underlying9 (user.size : Int) (by omega) (by omega)
  have k2 := run_two_int (P := Tryz.prog) 83 9 5 Tryz.underlying83 Tryz.underlying5 Tryz.underlying9 rounds epoch (by omega) (by omega) (by omega) (by omega)
  have s1 : (bs [UInt8.ofNat user.size]).size = 1 := rfl
  have s2 : (bs [UInt8.ofNat rounds.toNat, UInt8.ofNat epoch.toNat]).size = 2 := rfl
  go_enter Tryz.func24, Tryz.ntmps24
  go_wp2_with (go_at_call 34; refine (HR.out _).mono ?_; rintro e w' ⟨rfl, hb⟩; obtain ⟨hc, hf⟩ := bcell hb; have hz : w.heap.size < w'.heap.size := by (have := hb.size; simp at this; omega))
  go_ret2
  exact ⟨rfl, below_alloc (below_alloc (below_chain (below_alloc (Below.refl _ _) _) hb) _) _⟩

end Go.Proofs.YtfckjilhkdlpfaaGreatDoor

namespace Go.Proofs.YtfckjilhkdlpfaaGreatDoor
open Go.RowKit MS
set_option maxHeartbeats 400000 in
theorem next_any (b : Nat) (s : ByteArray) (p n : Nat) (m : Int) (hm : m = n) (hn : p + n ≤ s.size) (w : World) (hc : w.cell? ⟨b, 0, none⟩ = some (.string (s.extract p s.size))) (hf : w.frozen? ⟨b, 0, none⟩ = false) :
    Calls Tryz.prog 53 #[.int .i64 m, .pointer (some ⟨b, 0, none⟩)] w fun e w' => e = .returned (.string (s.extract p (p + n))) ∧ w' = w.setCell ⟨b, 0, none⟩ (.string (s.extract (p + n) s.size)) := by
  subst hm
  have e1 := extract_head s p n hn
  have e2 := extract_tail s p n hn
  have z := size_extract_to s p
  have hz : n ≤ (s.extract p s.size).size := by omega
  go_enter Tryz.func53, Tryz.ntmps53
  go_wp2
  go_ret
  exact ⟨rfl, rfl⟩

/-- The account that bytes are, by their places. -/
def takeAcc (s : ByteArray) (k : Nat) : Acc :=
  ⟨s.extract 1 (1 + k), s.extract (1 + k) (1 + k + 16), ((ls s).getD (1 + k + 16) 0).toNat, ((ls s).getD (1 + k + 16 + 1) 0).toNat, s.extract (1 + k + 16 + 1 + 1) (1 + k + 16 + 1 + 1 + 32), s.extract (1 + k + 16 + 1 + 1 + 32) (1 + k + 16 + 1 + 1 + 32 + 12), s.extract (1 + k + 16 + 1 + 1 + 32 + 12) (1 + k + 16 + 1 + 1 + 32 + 12 + 48), s.extract (1 + k + 16 + 1 + 1 + 32 + 12 + 48) s.size⟩
theorem byte_at (s : ByteArray) (p : Nat) (hp : p < s.size) (h : 0 < (s.extract p (p + 1)).size) : ((s.extract p (p + 1))[0]'h) = (ls s).getD p 0 := by
  rw [get_ls]
  have hl : p < (ls s).length := by rw [length_ls]; exact hp
  rw [List.getD_eq_getElem?_getD, List.getElem?_eq_getElem hl, Option.getD_some]
  have e : ls (s.extract p (p + 1)) = [(ls s)[p]] := by
    rw [ls_extract, Nat.add_sub_cancel_left, List.drop_eq_getElem_cons hl]; rfl
  simp [e]

/-- No account. -/
def noAcc : Acc := ⟨bs [], bs [], 0, 0, bs [], bs [], bs [], bs []⟩
/-- What Take answers. -/
def TakeP (a : Acc) (e : Ending) : Prop := (a.ok = true → e = .returned (.tuple #[a.v, .int .i64 0])) ∧ (a.ok = false → e = .returned (.tuple #[noAcc.v, .int .i64 3]))

theorem takeP_no {a : Acc} (h : a.ok = false) : TakeP a (.returned (.tuple #[noAcc.v, .int .i64 3])) := ⟨fun h' => (by rw [h] at h'; cases h'), fun _ => rfl⟩
theorem takeP_yes {a : Acc} (h : a.ok = true) : TakeP a (.returned (.tuple #[a.v, .int .i64 0])) := ⟨fun _ => rfl, fun h' => (by rw [h] at h'; cases h')⟩
set_option maxHeartbeats 2000000 in
theorem take_core (s : ByteArray) (k R E : Nat) (h0 : 0 < s.size) (hk : (s[0]'h0).toNat = k) (hl : 111 + k ≤ s.size) (hm : s.size ≤ 100000) (hR : R ≤ 255) (hE : E ≤ 255)
    (x1 : ∀ h, ((s.extract (1 + k + 16) (1 + k + 16 + 1))[0]'h).toNat = R) (x2 : ∀ h, ((s.extract (1 + k + 16 + 1) (1 + k + 16 + 1 + 1))[0]'h).toNat = E) (a : Acc)
    (ha : a = ⟨s.extract 1 (1 + k), s.extract (1 + k) (1 + k + 16), R, E, s.extract (1 + k + 16 + 1 + 1) (1 + k + 16 + 1 + 1 + 32), s.extract (1 + k + 16 + 1 + 1 + 32) (1 + k + 16 + 1 + 1 + 32 + 12), s.extract (1 + k + 16 + 1 + 1 + 32 + 12) (1 + k + 16 + 1 + 1 + 32 + 12 + 48), s.extract (1 + k + 16 + 1 + 1 + 32 + 12 + 48) s.size⟩) (w : World) :
    Calls Tryz.prog 25 #[.string s] w fun e w' => TakeP a e ∧ Below w.heap.size w w' := by
  have t1 : s.toList.isEmpty = false := by rw [isEmpty_size, beq_eq_false_iff_ne]; omega
  have hk' : k ≤ 255 := by have := (s[0]'h0).toNat_lt; omega
  have t2 : decide ((↑(s.size - 1) : Int) < ↑k + 16 + 2 + 32 + 12 + 48) = false := by simp; omega
  have HA := Lib.hid ha
  clear ha
  go_enter Tryz.func25, Tryz.ntmps25
  go_wp2_with fail
  refine (next_any _ s 1 k _ rfl (by omega) _ (by simp [go_sem]) (by simp [go_sem])).mono ?_
  rintro e w' ⟨rfl, rfl⟩
  go_wp2_with fail
  refine (next_any _ s (1 + k) 16 16 (by decide) (by omega) _ (by simp [go_sem]) (by simp [go_sem])).mono ?_
  rintro e w' ⟨rfl, rfl⟩
  go_wp2_with fail
  refine (next_any _ s (1 + k + 16) 1 1 (by decide) (by omega) _ (by simp [go_sem]) (by simp [go_sem])).mono ?_
  rintro e w' ⟨rfl, rfl⟩
  go_wp2_with fail
  refine (next_any _ s (1 + k + 16 + 1) 1 1 (by decide) (by omega) _ (by simp [go_sem]) (by simp [go_sem])).mono ?_
  rintro e w' ⟨rfl, rfl⟩
  go_wp2_with fail
  refine (next_any _ s (1 + k + 16 + 1 + 1) 32 32 (by decide) (by omega) _ (by simp [go_sem]) (by simp [go_sem])).mono ?_
  rintro e w' ⟨rfl, rfl⟩
  go_wp2_with fail
  refine (next_any _ s (1 + k + 16 + 1 + 1 + 32) 12 12 (by decide) (by omega) _ (by simp [go_sem]) (by simp [go_sem])).mono ?_
  rintro e w' ⟨rfl, rfl⟩
  go_wp2_with fail
  refine (next_any _ s (1 + k + 16 + 1 + 1 + 32 + 12) 48 48 (by decide) (by omega) _ (by simp [go_sem]) (by simp [go_sem])).mono ?_
  rintro e w' ⟨rfl, rfl⟩
  go_wp2_with fail
  refine (right_any ⟨s.extract 1 (1 + k), s.extract (1 + k) (1 + k + 16), R, E, s.extract (1 + k + 16 + 1 + 1) (1 + k + 16 + 1 + 1 + 32), s.extract (1 + k + 16 + 1 + 1 + 32) (1 + k + 16 + 1 + 1 + 32 + 12), s.extract (1 + k + 16 + 1 + 1 + 32 + 12) (1 + k + 16 + 1 + 1 + 32 + 12 + 48), s.extract (1 + k + 16 + 1 + 1 + 32 + 12 + 48) s.size⟩ _).mono ?_
  rintro e w' ⟨rfl, hb⟩
  obtain ⟨hc, hf⟩ := bcell hb
  rw [← HA.out]
  have g0 : w'.cell? ⟨w.heap.size, 0, none⟩ = some (.string ⟨#[]⟩) := by rw [hc _ _ (by simp; omega)]; simp [go_sem]
  have g1 : w'.cell? ⟨w.heap.size, 1, none⟩ = some (.string ⟨#[]⟩) := by rw [hc _ _ (by simp; omega)]; simp [go_sem]
  have g2 : w'.cell? ⟨w.heap.size, 2, none⟩ = some (.int .i64 0) := by rw [hc _ _ (by simp; omega)]; simp [go_sem]
  have g3 : w'.cell? ⟨w.heap.size, 3, none⟩ = some (.int .i64 0) := by rw [hc _ _ (by simp; omega)]; simp [go_sem]
  have g4 : w'.cell? ⟨w.heap.size, 4, none⟩ = some (.string ⟨#[]⟩) := by rw [hc _ _ (by simp; omega)]; simp [go_sem]
  have g5 : w'.cell? ⟨w.heap.size, 5, none⟩ = some (.string ⟨#[]⟩) := by rw [hc _ _ (by simp; omega)]; simp [go_sem]
  have g6 : w'.cell? ⟨w.heap.size, 6, none⟩ = some (.string ⟨#[]⟩) := by rw [hc _ _ (by simp; omega)]; simp [go_sem]
  have g7 : w'.cell? ⟨w.heap.size, 7, none⟩ = some (.string ⟨#[]⟩) := by rw [hc _ _ (by simp; omega)]; simp [go_sem]
  go_wp2_with fail
  · rename_i hno
    have hno' : a.ok = false := by simpa using hno
    refine bodyPost_ret (v := .tuple #[noAcc.v, .int .i64 3]) (by simp [results, Tryz.results25, go_sem, noAcc, Acc.v, bs, g0, g1, g2, g3, g4, g5, g6, g7]) rfl ⟨takeP_no hno', ?_⟩
    repeat (first | (with_reducible exact Below.refl _ _) | (with_reducible refine below_setCell ?_ (by simp) _) | (with_reducible apply below_alloc) | (with_reducible refine below_chain ?_ hb))
  · rename_i hyes
    have hyes' : a.ok = true := by simpa using hyes
    refine bodyPost_ret (v := .tuple #[a.v, .int .i64 0]) (by rw [HA.out]; simp [results, Tryz.results25, go_sem, Acc.v, g0, g1, g2, g3, g4, g5, g6, g7]) rfl ⟨takeP_yes hyes', ?_⟩
    repeat (first | (with_reducible exact Below.refl _ _) | (with_reducible refine below_setCell ?_ (by simp) _) | (with_reducible apply below_alloc) | (with_reducible refine below_chain ?_ hb))

set_option maxHeartbeats 400000 in
theorem take_short (s : ByteArray) (hs : s.size = 0 ∨ ∃ h : 0 < s.size, s.size < 111 + (s[0]'h).toNat) (hm : s.size ≤ 100000) (w : World) :
    Calls Tryz.prog 25 #[.string s] w fun e w' => e = .returned (.tuple #[noAcc.v, .int .i64 3]) ∧ Below w.heap.size w w' := by
  rcases hs with hs | ⟨h0, hs⟩
  · have t1 : s.toList.isEmpty = true := by rw [isEmpty_size, hs]; rfl
    have HS := Lib.hid hs
    clear hs
    go_enter Tryz.func25, Tryz.ntmps25
    go_wp2_with fail
    refine bodyPost_ret (v := .tuple #[noAcc.v, .int .i64 3]) (by simp [results, Tryz.results25, go_sem, noAcc, Acc.v, bs]) rfl ⟨rfl, ?_⟩
    repeat (first | (with_reducible exact Below.refl _ _) | (with_reducible refine below_setCell ?_ (by simp) _) | (with_reducible apply below_alloc))
  · have t1 : s.toList.isEmpty = false := by rw [isEmpty_size, beq_eq_false_iff_ne]; omega
    have hk' : (s[0]'h0).toNat ≤ 255 := by have := (s[0]'h0).toNat_lt; omega
    have t2 : decide ((↑(s.size - 1) : Int) < ↑(s[0]'h0).toNat + 16 + 2 + 32 + 12 + 48) = true := by simp; omega
    obtain ⟨k, hk⟩ : ∃ k, (s[0]'h0).toNat = k := ⟨_, rfl⟩
    rw [hk] at hk' t2 hs
    go_enter Tryz.func25, Tryz.ntmps25
    go_wp2_with fail
    refine bodyPost_ret (v := .tuple #[noAcc.v, .int .i64 3]) (by simp [results, Tryz.results25, go_sem, noAcc, Acc.v, bs]) rfl ⟨rfl, ?_⟩
    repeat (first | (with_reducible exact Below.refl _ _) | (with_reducible refine below_setCell ?_ (by simp) _) | (with_reducible apply below_alloc))

theorem takeAcc_eq (s : ByteArray) (k : Nat) (hl : 111 + k ≤ s.size) :
    (∀ h, ((s.extract (1 + k + 16) (1 + k + 16 + 1))[0]'h).toNat = ((ls s).getD (1 + k + 16) 0).toNat) ∧ (∀ h, ((s.extract (1 + k + 16 + 1) (1 + k + 16 + 1 + 1))[0]'h).toNat = ((ls s).getD (1 + k + 16 + 1) 0).toNat) :=
  ⟨fun h => by rw [byte_at s _ (by omega) h], fun h => by rw [byte_at s _ (by omega) h]⟩
theorem take_any (s : ByteArray) (k : Nat) (h0 : 0 < s.size) (hk : (s[0]'h0).toNat = k) (hl : 111 + k ≤ s.size) (hm : s.size ≤ 100000) (w : World) :
    Calls Tryz.prog 25 #[.string s] w fun e w' => TakeP (takeAcc s k) e ∧ Below w.heap.size w w' := by
  obtain ⟨x1, x2⟩ := takeAcc_eq s k hl
  exact take_core s k _ _ h0 hk hl hm (by have := UInt8.toNat_lt ((ls s).getD (1 + k + 16) 0); omega) (by have := UInt8.toNat_lt ((ls s).getD (1 + k + 16 + 1) 0); omega) x1 x2 _ rfl w
end Go.Proofs.YtfckjilhkdlpfaaGreatDoor

namespace Go.Proofs.YtfckjilhkdlpfaaGreatDoor
open Go.RowKit MS
theorem drop_take_mid (A B C : List UInt8) (n m : Nat) (hn : A.length = n) (hm : B.length = m) : ((A ++ (B ++ C)).drop n).take (n + m - n) = B := by
  subst hn; subst hm
  rw [List.drop_left, Nat.add_sub_cancel_left, List.take_left]
theorem getD_mid (A : List UInt8) (b : UInt8) (C : List UInt8) (n : Nat) (hn : A.length = n) : (A ++ (b :: C)).getD n 0 = b := by
  subst hn; simp [List.getD_eq_getElem?_getD]

theorem ls_put (a : Acc) : ls a.put = UInt8.ofNat a.user.size :: (ls a.user ++ (ls a.salt ++ (UInt8.ofNat a.rounds.toNat :: UInt8.ofNat a.epoch.toNat :: (ls a.pub ++ (ls a.nonce ++ (ls a.wrapped ++ ls a.old)))))) := by
  unfold Acc.put
  simp only [ls_append, ls_bs]
  simp
theorem rput_size (a : Acc) (h : a.fits) : a.put.size = 111 + a.user.size + a.old.size := by
  rw [← length_ls, ls_put]
  simp only [List.length_cons, List.length_append, length_ls, h.salt, h.pub, h.nonce, h.wrapped]
  omega
theorem extract_mid {s : ByteArray} {A B C : List UInt8} {n m : Nat} (hs : ls s = A ++ (B ++ C)) (hn : A.length = n) (hm : B.length = m) : ls (s.extract n (n + m)) = B := by
  rw [ls_extract, hs, drop_take_mid A B C n m hn hm]

theorem takeAcc_put (a : Acc) (h : a.fits) : takeAcc a.put a.user.size = a := by
  have L := ls_put a
  obtain ⟨user, salt, rounds, epoch, pub, nonce, wrapped, old⟩ := a
  obtain ⟨h1, h2, h3, h4, h5, h6, h7, h8, h9, h10⟩ := h
  simp only at *
  generalize (⟨user, salt, rounds, epoch, pub, nonce, wrapped, old⟩ : Acc).put = s at *
  generalize hU : UInt8.ofNat user.size = U at L
  generalize hR : UInt8.ofNat rounds.toNat = R at L
  generalize hE : UInt8.ofNat epoch.toNat = E at L
  have l1 : (ls user).length = user.size := length_ls _
  have l2 : (ls salt).length = 16 := by rw [length_ls, h3]
  have l3 : (ls pub).length = 32 := by rw [length_ls, h7]
  have l4 : (ls nonce).length = 12 := by rw [length_ls, h8]
  have l5 : (ls wrapped).length = 48 := by rw [length_ls, h9]
  unfold takeAcc
  have e1 : s.extract 1 (1 + user.size) = user := ls_inj (extract_mid (A := [U]) (C := ls salt ++ R :: E :: (ls pub ++ (ls nonce ++ (ls wrapped ++ ls old)))) (by rw [L]; rfl) rfl l1)
  have e2 : s.extract (1 + user.size) (1 + user.size + 16) = salt := ls_inj (extract_mid (A := U :: ls user) (C := R :: E :: (ls pub ++ (ls nonce ++ (ls wrapped ++ ls old)))) (by rw [L]; simp) (by simp [l1]; omega) l2)
  have e3 : (ls s).getD (1 + user.size + 16) 0 = R := by
    rw [L, show U :: (ls user ++ (ls salt ++ R :: E :: (ls pub ++ (ls nonce ++ (ls wrapped ++ ls old))))) = (U :: (ls user ++ ls salt)) ++ (R :: E :: (ls pub ++ (ls nonce ++ (ls wrapped ++ ls old)))) by simp]
    exact getD_mid _ _ _ _ (by simp [l1, l2]; omega)
  have e4 : (ls s).getD (1 + user.size + 16 + 1) 0 = E := by
    rw [L, show U :: (ls user ++ (ls salt ++ R :: E :: (ls pub ++ (ls nonce ++ (ls wrapped ++ ls old))))) = (U :: (ls user ++ (ls salt ++ [R]))) ++ (E :: (ls pub ++ (ls nonce ++ (ls wrapped ++ ls old)))) by simp]
    exact getD_mid _ _ _ _ (by simp [l1, l2]; omega)
  have e5 : s.extract (1 + user.size + 16 + 1 + 1) (1 + user.size + 16 + 1 + 1 + 32) = pub := ls_inj (extract_mid (A := U :: (ls user ++ (ls salt ++ [R, E]))) (C := ls nonce ++ (ls wrapped ++ ls old)) (by rw [L]; simp) (by simp [l1, l2]; omega) l3)
  have e6 : s.extract (1 + user.size + 16 + 1 + 1 + 32) (1 + user.size + 16 + 1 + 1 + 32 + 12) = nonce := ls_inj (extract_mid (A := U :: (ls user ++ (ls salt ++ R :: E :: ls pub))) (C := ls wrapped ++ ls old) (by rw [L]; simp) (by simp [l1, l2, l3]; omega) l4)
  have e7 : s.extract (1 + user.size + 16 + 1 + 1 + 32 + 12) (1 + user.size + 16 + 1 + 1 + 32 + 12 + 48) = wrapped := ls_inj (extract_mid (A := U :: (ls user ++ (ls salt ++ R :: E :: (ls pub ++ ls nonce)))) (C := ls old) (by rw [L]; simp) (by simp [l1, l2, l3, l4]; omega) l5)
  have e8 : s.extract (1 + user.size + 16 + 1 + 1 + 32 + 12 + 48) s.size = old := by
    have hz : s.size = 1 + user.size + 16 + 1 + 1 + 32 + 12 + 48 + old.size := by
      rw [← length_ls, L]
      simp only [List.length_cons, List.length_append, l1, l2, l3, l4, l5, length_ls]
      omega
    have := extract_mid (s := s) (A := U :: (ls user ++ (ls salt ++ R :: E :: (ls pub ++ (ls nonce ++ ls wrapped))))) (B := ls old) (C := []) (by rw [L]; simp) (n := 1 + user.size + 16 + 1 + 1 + 32 + 12 + 48) (by simp [l1, l2, l3, l4, l5]; omega) (length_ls old)
    rw [← hz] at this
    exact ls_inj this
  have hr : ((R.toNat : Nat) : Int) = rounds := by rw [← hR]; exact u8_of rounds (by omega) (by omega)
  have he : ((E.toNat : Nat) : Int) = epoch := by rw [← hE]; exact u8_of epoch (by omega) (by omega)
  simp only [e1, e2, e3, e4, e5, e6, e7, e8, hr, he]

end Go.Proofs.YtfckjilhkdlpfaaGreatDoor

namespace Go.Proofs.YtfckjilhkdlpfaaGreatDoor
open Go.RowKit MS
/-- Are the texts short? -/
def Acc.short (a : Acc) : Bool := decide (a.user.size ≤ 300 ∧ a.salt.size ≤ 100 ∧ a.pub.size ≤ 100 ∧ a.nonce.size ≤ 100 ∧ a.wrapped.size ≤ 100 ∧ a.old.size ≤ 400)
set_option maxHeartbeats 1000000 in
theorem short_any (a : Acc) (w : World) :
    Calls Tryz.prog 7 #[a.v, .agg #[.string ⟨#[]⟩, .string ⟨#[]⟩, .string ⟨#[]⟩, .int .i64 0]] w fun e w' => e = .returned (.bool a.short) ∧ Below w.heap.size w w' := by
  obtain ⟨user, salt, rounds, epoch, pub, nonce, wrapped, old⟩ := a
  unfold Acc.v
  simp only
  go_enter Tryz.func7, Tryz.ntmps7
  go_wp2_with fail
  all_goals
    go_ret
    refine ⟨?_, below_alloc (below_alloc (Below.refl _ _) _) _⟩
    unfold Acc.short
    simp [*]
    try omega

end Go.Proofs.YtfckjilhkdlpfaaGreatDoor

namespace Go.Proofs.YtfckjilhkdlpfaaGreatDoor
open Go.RowKit MS
/-- Put, then Take. -/
theorem take_put (a : Acc) (h : a.ok = true) (w : World) :
    Calls Tryz.prog 25 #[.string a.put] w fun e w' => e = .returned (.tuple #[a.v, .int .i64 0]) ∧ Below w.heap.size w w' := by
  have hf := Acc.fits_of h
  have hz := rput_size a hf
  have h0 : 0 < a.put.size := by omega
  have hu : a.user.size ≤ 8 := hf.u8
  have ho := hf.old
  have hk : (a.put[0]'h0).toNat = a.user.size := by
    rw [get_ls]
    simp only [ls_put, List.getElem_cons_zero]
    rw [UInt8.toNat_ofNat']; omega
  refine (take_any a.put a.user.size h0 hk (by omega) (by omega) w).mono fun e w' ⟨he, hb⟩ => ⟨?_, hb⟩
  have := he.1 (by rw [takeAcc_put a hf]; exact h)
  rw [takeAcc_put a hf] at this
  exact this

/-- The account of the fixed answer. -/
def a0 : Acc := ⟨bs [97, 108], bs [48, 49, 50, 51, 52, 53, 54, 55, 56, 57, 97, 98, 99, 100, 101, 102], 1, 0,
  bs [48, 49, 50, 51, 52, 53, 54, 55, 56, 57, 97, 98, 99, 100, 101, 102, 48, 49, 50, 51, 52, 53, 54, 55, 56, 57, 97, 98, 99, 100, 101, 102],
  bs [48, 49, 50, 51, 52, 53, 54, 55, 56, 57, 97, 98],
  bs [48, 49, 50, 51, 52, 53, 54, 55, 56, 57, 97, 98, 99, 100, 101, 102, 48, 49, 50, 51, 52, 53, 54, 55, 56, 57, 97, 98, 99, 100, 101, 102, 48, 49, 50, 51, 52, 53, 54, 55, 56, 57, 97, 98, 99, 100, 101, 102], bs []⟩
theorem a0_ok : a0.ok = true := by decide +kernel
theorem a0_size : a0.put.size = 113 := by rw [rput_size a0 (Acc.fits_of a0_ok)]; rfl

theorem al_user : usrB ⟨#[97, 108]⟩ = true := by decide +kernel
theorem Al_user : usrB ⟨#[65, 108]⟩ = false := by decide +kernel
end Go.Proofs.YtfckjilhkdlpfaaGreatDoor

namespace Go.Proofs.YtfckjilhkdlpfaaGreatDoor
open Go.RowKit MS
theorem fin_ok {a : Acc} (h : a.ok = true) : ({ a with old := bs [] } : Acc).ok = true := by
  obtain ⟨user, salt, rounds, epoch, pub, nonce, wrapped, old⟩ := a
  unfold Acc.ok at *
  simp only [Bool.and_eq_true] at *
  exact ⟨h.1, by rw [size_bs]; rfl⟩
end Go.Proofs.YtfckjilhkdlpfaaGreatDoor

namespace Go.Proofs.YtfckjilhkdlpfaaGreatDoor
open Go.RowKit MS
section
variable {ops : Array Oper} {Q : Exit → Act → World → Prop}
set_option maxRecDepth 100000 in
theorem run_make_u8 (w : World) (N : Nat) (hN : N ≤ 1000000) : (Instr.makeSlice 83 (.int .i64 (N : Int)) (.int .i64 (N : Int))).run Tryz.prog w = .ok (.slice (some ⟨w.heap.size, 0, none⟩) N N) (w.alloc (.cells (vls (List.replicate N 0)).toArray 5 (0, 0))) := by
  obtain ⟨i8, hj0, hy0, hy1, hy2⟩ : ∃ i, Tryz.prog.info? 5 = some i ∧ i.zero = some (.int .u8 0) ∧ i.size = 1 ∧ i.bytes = 1 := ⟨_, rfl, rfl, rfl, rfl⟩
  have hrun := run_make (P := Tryz.prog) w 83 5 i8 (.int .u8 0) Tryz.underlying83 hj0 hy0 .i64 .i64 (N : Int) (N : Int) (by omega) (by omega) (by rw [hy2]; omega) (by omega)
  rw [hy1] at hrun
  simp only [Int.toNat_natCast, Nat.mul_one] at hrun
  have hz : madeCells (Value.int .u8 0).cells N = (vls (List.replicate N 0)).toArray := by
    apply Array.toList_inj.1
    exact made_u8 N
  rw [hz] at hrun
  exact hrun
theorem wpOp_make_u8 {i d : Nat} {o : Oper} {x y : Operand} {N : Nat} {K : Act → World → Prop} {a : Act} {w : World} (hi : ops[i]? = some o) (hg : o.guard = none) (hd : o.dst = some d) (ho : o.op = .makeSlice 83 x y)
    (hx : a.eval x = .int .i64 (N : Int)) (hy : a.eval y = .int .i64 (N : Int)) (hN : N ≤ 1000000)
    (h : K (a.put (some d) (.slice (some ⟨w.heap.size, 0, none⟩) N N)) (w.alloc (.cells (vls (List.replicate N 0)).toArray 5 (0, 0)))) : wpOp Tryz.prog ops Q i K a w := by
  unfold wpOp
  simp only [hi]
  have hw : Region.wanted o (yielded ops a.tmps) = true := by simp [Region.wanted, hg]
  rw [if_pos hw]
  refine .inl ?_
  unfold Oper.wp execOp
  simp only [ho, hx, hy, Sem.run_bind, Sem.run_pure, Result.andThen_ok, run_make_u8 w N hN, Oper.upon, hd]
  exact h
theorem wpOp_conv_u8 {i d : Nat} {o : Oper} {x : Operand} {g N c : Nat} {l : List UInt8} {s : ByteArray} {K : Act → World → Prop} {a : Act} {w : World} (hi : ops[i]? = some o) (hg : o.guard = none) (hd : o.dst = some d) (ho : o.op = .convert 83 9 x)
    (hx : a.eval x = .slice (some ⟨g, 0, none⟩) N c) (hb : w.heap[g]? = some (.cells (vls l).toArray 5 (0, 0))) (hl : l.length = N) (hs : bs l = s) (h : K (a.put (some d) (.string s)) w) : wpOp Tryz.prog ops Q i K a w := by
  subst hs
  unfold wpOp
  simp only [hi]
  have hw : Region.wanted o (yielded ops a.tmps) = true := by simp [Region.wanted, hg]
  rw [if_pos hw]
  refine .inl ?_
  have hc : (convert 83 9 (.slice (some ⟨g, 0, none⟩) N c)).run Tryz.prog w = .ok (.string (bs l)) w := by
    refine run_bytes_to_string w 83 9 5 Tryz.underlying83 Tryz.underlying5 Tryz.underlying9 g 0 N c l hl (fun j hj => ?_)
    rw [Nat.zero_add, cell_of_row w g j _ _ _ hb]
    simp [vls, valB, hj]
  unfold Oper.wp execOp
  simp only [ho, hx, Sem.run_bind, Sem.run_pure, Result.andThen_ok, hc, Oper.upon, hd]
  exact h
end
theorem pconv_zeros (w : World) (N : Nat) : (convert 83 9 (.slice (some ⟨w.heap.size, 0, none⟩) N N)).run Tryz.prog (w.alloc (.cells (vls (List.replicate N 0)).toArray 5 (0, 0))) = .ok (.string (bs (List.replicate N 0))) (w.alloc (.cells (vls (List.replicate N 0)).toArray 5 (0, 0))) :=
  (Bt.made (T := 5) (Below.refl w.heap.size w) (List.replicate N 0)).conv N N (by simp)
theorem wpList_make_u8 {w : World} {ops : Array Oper} {rest : List Oper} {o : Oper} {a : Act} {Q : Exit → Act → World → Prop} (hgd : o.guard = none) (x y : Operand) (ho : o.op = .makeSlice 83 x y) (N : Nat)
    (hx : a.eval x = .int .i64 (N : Int)) (hy : a.eval y = .int .i64 (N : Int)) (hN : N ≤ 1000000)
    (h : wpList Tryz.prog ops Q rest (a.put o.dst (.slice (some ⟨w.heap.size, 0, none⟩) N N)) (w.alloc (.cells (vls (List.replicate N 0)).toArray 5 (0, 0)))) : wpList Tryz.prog ops Q (o :: rest) a w := by
  refine wpList_plain hgd fun K hK => ?_
  unfold Oper.wp execOp
  simp only [ho, hx, hy, Sem.run_bind, Sem.run_pure, Result.andThen_ok, run_make_u8 w N hN]
  exact hK _ _ h
theorem wpList_conv_u8 {w : World} {ops : Array Oper} {rest : List Oper} {o : Oper} {a : Act} {Q : Exit → Act → World → Prop} (hgd : o.guard = none) (x : Operand) (ho : o.op = .convert 83 9 x) (g N c : Nat) (l : List UInt8) (s : ByteArray)
    (hx : a.eval x = .slice (some ⟨g, 0, none⟩) N c) (hb : w.heap[g]? = some (.cells (vls l).toArray 5 (0, 0))) (hl : l.length = N) (hs : bs l = s)
    (h : wpList Tryz.prog ops Q rest (a.put o.dst (.string s)) w) : wpList Tryz.prog ops Q (o :: rest) a w := by
  subst hs
  refine wpList_plain hgd fun K hK => ?_
  have hc : (convert 83 9 (.slice (some ⟨g, 0, none⟩) N c)).run Tryz.prog w = .ok (.string (bs l)) w := by
    refine run_bytes_to_string w 83 9 5 Tryz.underlying83 Tryz.underlying5 Tryz.underlying9 g 0 N c l hl (fun j hj => ?_)
    rw [Nat.zero_add, cell_of_row w g j _ _ _ hb]
    simp [vls, valB, hj]
  unfold Oper.wp execOp
  simp only [ho, hx, Sem.run_bind, Sem.run_pure, Result.andThen_ok, hc]
  exact hK _ _ h
end Go.Proofs.YtfckjilhkdlpfaaGreatDoor
