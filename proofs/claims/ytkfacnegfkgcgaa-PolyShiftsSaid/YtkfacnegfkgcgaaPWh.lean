/-
  poly.Tag: the walk.
-/
import Derived.Test.YtkfacnegfkgcgaaPWg
namespace Go.Proofs.Ytkfacnegfkgcgaa
open Go.RowKit MS

theorem wpQuiet_load_rowP {P : Program} {ops : Array Oper} {C : World → Prop} {Q : Act → Prop} {a : Act} {o : Oper} {rest : List Oper} (hgd : o.guard = none) (ty : TypeId) (x : Operand) (ho : o.op = .load ty x)
    (g : Nat) (hx : a.eval x = .pointer (some ⟨g, 0, none⟩)) (t : TypeId) (cs : Array Value) (fr : Nat × Nat) (d : TypeDesc) (hC : ∀ w, C w → w.heap[g]? = some (.cells cs t fr))
    (hu : P.underlying ty = some d) (hd : (match d with | .struct _ | .array _ _ => true | _ => false) = true) (hi : (P.info? ty).map (·.size) = some cs.size)
    (h : wpQuiet P ops C Q rest (a.put o.dst (.agg cs))) : wpQuiet P ops C Q (o :: rest) a := by
  show if Region.wanted o (yielded ops a.tmps) = true then _ else _
  rw [if_pos (by simp [Region.wanted, hgd])]
  refine ⟨.agg cs, fun w hw => ?_, h⟩
  unfold Oper.quietAt execOp
  simp only [ho, hx, Instr.loadAt, Instr.sureAddr, Sem.run_bind, Sem.run_pure, Result.andThen_ok, run_loadVar_row w g t ty cs fr d (hC w hw) hu hd hi]
  exact ⟨rfl, rfl⟩

theorem tag_no (key s : ByteArray) (hk : key.size ≠ 32) (w : World) :
    Calls Try.prog 26 #[.string key, .string s] w fun e w' => e = .returned (.tuple #[.string ⟨#[]⟩, .bool false]) ∧ Below w.heap.size w w' := by
  have t1 : ((key.size : Int) != 32) = true := by simp; omega
  clear hk
  go_enter Try.func26, Try.ntmps26
  go_wp2_with fail
  go_ret2
  exact ⟨rfl, Below.refl _ _⟩

def addL (h b : L5) : L5 := ⟨h.a + b.a, h.b + b.b, h.c + b.c, h.d + b.d, h.e + b.e⟩
theorem addL_v (h b : L5) : (addL h b).v = h.v + b.v := by
  simp only [addL, L5.v]; omega
theorem addL_row (h b : L5) : rowF (fun i => getL h i + getL b i) = lvA (addL h b) := rowF_congr fun i hi => by
  have : i = 0 ∨ i = 1 ∨ i = 2 ∨ i = 3 ∨ i = 4 := by omega
  rcases this with rfl | rfl | rfl | rfl | rfl <;> rfl
/-- A block's limbs. -/
def fullL (v : Nat) : L5 := ⟨(splitL v).a, (splitL v).b, (splitL v).c, (splitL v).d, (splitL v).e + 16777216⟩
theorem fullL_v (v : Nat) : (fullL v).v = v + 256 ^ 16 := by
  have := splitL_v v
  rw [show (256 : Nat) ^ 16 = 340282366920938463463374607431768211456 by decide]
  unfold L5.v at this
  simp only [fullL, L5.v]
  omega
theorem fullL_in {v : Nat} (h : v < 340282366920938463463374607431768211456) : (fullL v).in26 := by
  obtain ⟨⟨h0, h1, h2, h3, h4⟩, h5⟩ := splitL_in h
  unfold L5.in26 fullL
  simp only
  omega
theorem fullL_row (v : Nat) : rowF (upd (getL (splitL v)) 4 (getL (splitL v) 4 + 16777216)) = lvA (fullL v) := by
  refine rowF_congr fun i hi => ?_
  have : i = 0 ∨ i = 1 ∨ i = 2 ∨ i = 3 ∨ i = 4 := by omega
  rcases this with rfl | rfl | rfl | rfl | rfl <;> simp [upd, getL, fullL]
theorem addL_in {h b : L5} (hh : h.in27) (hb : b.in26) : (addL h b).in28 := by
  obtain ⟨h0, h1, h2, h3, h4⟩ := hh
  obtain ⟨b0, b1, b2, b3, b4⟩ := hb
  unfold L5.in28 addL
  simp only
  omega
/-- One round of the sum. -/
theorem tag_round {h b r : L5} {H : Nat} (hh : h.in27) (hb : b.in26) (hr : r.in26) (hH : h.v % P130 = H) : (mulL (addL h b) r).in27 ∧ (mulL (addL h b) r).v % P130 = (H + b.v) * r.v % P130 := by
  refine ⟨mulL_in (addL_in hh hb) hr, ?_⟩
  rw [mulL_mod, addL_v, ← hH]
  conv => lhs; rw [Nat.mul_mod, Nat.add_mod]
  conv => rhs; rw [Nat.mul_mod, Nat.add_mod, Nat.mod_mod]
def strSize : Value → Nat
  | .string b => b.size
  | _ => 0
def zeroL : L5 := ⟨0, 0, 0, 0, 0⟩
/-- What the outer loop keeps. -/
structure TgS (w0 : World) (g6 g7 r V : Nat) (l : List UInt8) (k : Nat) (w : World) : Prop where
  st : ∃ h : L5, h.in27 ∧ h.v % P130 = hP r l k ∧ Rw w0 [(g6, lvA (pclampL V), 61), (g7, lvA h, 61)] w

theorem cur_size (s : ByteArray) (k : Nat) : (s.extract (16 * k) s.size).size = s.size - 16 * k := size_extract_to s (16 * k)
theorem cur_head (s : ByteArray) (k : Nat) (h : 16 * k + 16 ≤ s.size) : ls ((s.extract (16 * k) s.size).extract 0 16) = blkP (ls s) k := by
  rw [extract_head s (16 * k) 16 h, ls_extract, blkP, Nat.add_sub_cancel_left]
theorem cur_last (s : ByteArray) (k : Nat) (h : s.size < 16 * k + 16) : ls (s.extract (16 * k) s.size) = blkP (ls s) k := by
  have hl := length_ls s
  rw [ls_extract, blkP, List.take_of_length_le (by simp; omega), List.take_of_length_le (by simp; omega)]
theorem ext_whole (s : ByteArray) : s.extract 0 s.size = s := by
  apply ls_inj
  rw [ls_extract, List.drop_zero, List.take_of_length_le (by rw [length_ls]; omega)]
theorem cur_next (s : ByteArray) (k : Nat) (h : 16 * k + 16 ≤ s.size) : (s.extract (16 * k) s.size).extract 16 (s.size - 16 * k) = s.extract (16 * (k + 1)) s.size := extract_tail s (16 * k) 16 h
theorem ext_none (s t : ByteArray) (a b c d : Nat) (h : b ≤ a) (h2 : d ≤ c) : s.extract a b = t.extract c d := by
  apply ls_inj
  rw [ls_extract, ls_extract, show b - a = 0 by omega, show d - c = 0 by omega, List.take_zero, List.take_zero]

set_option maxRecDepth 1000000 in
set_option maxHeartbeats 4000000 in
theorem tag_yes (key s : ByteArray) (w : World) (hk : key.size = 32) (hs : s.size ≤ 100000) :
    Calls Try.prog 26 #[.string key, .string s] w fun e w' => e = .returned (.tuple #[.string (tagB key s), .bool true]) ∧ Below w.heap.size w w' := by
  have t1 : ((key.size : Int) != 32) = false := by simp; omega
  have k16 : (16 : Int) ≤ key.size := by omega
  have e1 : (key.extract 0 16).size = 16 := by rw [ByteArray.size_extract]; omega
  have e2 : ls (key.extract 0 16) = (ls key).take 16 := by rw [ls_extract, List.drop_zero]
  have e3 : (key.extract 16 key.size).size = 16 := by rw [ByteArray.size_extract]; omega
  have e4 : ls (key.extract 16 key.size) = (ls key).drop 16 := by
    rw [ls_extract, List.take_of_length_le (by rw [List.length_drop, length_ls]; omega)]
  have C1 := Lib.hid (fun w => polyclamp_any (key.extract 0 16) w e1)
  have F1 := Lib.hid (fun x hx w => finish_poly x (key.extract 16 key.size) hx e3 w)
  rw [e2] at C1
  rw [e4] at F1
  have HLV := Lib.hid (show leb ((ls key).take 16) < 340282366920938463463374607431768211456 by
    have := leb_lt ((ls key).take 16)
    rwa [List.length_take, length_ls, hk, show (256 : Nat) ^ min 16 32 = 340282366920938463463374607431768211456 by decide] at this)
  have HR := Lib.hid (show tagB key s = bs (nbs 16 (hP (clampN (leb ((ls key).take 16))) (ls s) ((s.size + 15) / 16) + leb ((ls key).drop 16))) from rfl)
  have HV := Lib.hid (show clampN (leb ((ls key).take 16)) = (pclampL (leb ((ls key).take 16))).v from rfl)
  have HIN := Lib.hid (pclampL_in HLV.out)
  have HS := Lib.hid hs
  generalize leb ((ls key).take 16) = V at *
  generalize leb ((ls key).drop 16) = H at *
  generalize tagB key s = R at HR ⊢
  have R0 := Rw.nil w
  have IR := Lib.hid (infoL (getL (pclampL V)))
  have OR := Lib.hid (one_rowF (getL (pclampL V)))
  have LR := Lib.hid (show (#[.int .u64 0, .int .u64 0, .int .u64 0, .int .u64 0, .int .u64 0] : Array Value).size = (rowF (getL (pclampL V))).size from rfl)
  have C2 := Lib.hid (show ∀ w, Calls Try.prog 38 #[.string (key.extract 0 16)] w fun e w' => e = .returned (.agg (rowF (getL (pclampL V)))) ∧ Below w.heap.size w w' from C1.out)
  clear hk hs e1 e2 e3 e4 C1
  go_enter Try.func26, Try.ntmps26
  go_wp2_with fail
  refine (C2.out _).mono ?_
  rintro e w1 ⟨rfl, hb1⟩
  have R1 := (R0.on hb1).alloc #[.int .u64 0, .int .u64 0, .int .u64 0, .int .u64 0, .int .u64 0] 61
  simp only [List.nil_append] at R1
  have RW1 := Lib.hid (R1.row 0)
  have R2 := R1.store 0 (rowF (getL (pclampL V)))
  simp only [List.set_cons_zero] at R2
  have RR2 := Lib.hid R2
  clear hb1 R0 R1 R2 C2
  go_upto_region 4 with (with_reducible refine wpList_store_row rfl 61 (.tmp 6) (.tmp 16) rfl w1.heap.size (rowF (getL (pclampL V))) rfl rfl 61 #[.int .u64 0, .int .u64 0, .int .u64 0, .int .u64 0, .int .u64 0] RW1.out IR.out LR.out OR.out ?_)
  generalize World.setRow _ _ (rowF (getL (pclampL V))) = w2 at RR2 ⊢
  generalize w1.heap.size = g6 at RR2 ⊢
  have R3 := RR2.out.alloc #[.int .u64 0, .int .u64 0, .int .u64 0, .int .u64 0, .int .u64 0] 61
  simp only [List.cons_append, List.nil_append] at R3
  have RR3 := Lib.hid (show Rw w [(g6, lvA (pclampL V), 61), (w2.heap.size, lvA zeroL, 61)] (w2.alloc (.cells #[.int .u64 0, .int .u64 0, .int .u64 0, .int .u64 0, .int .u64 0] 61 (0, 0))) from R3)
  clear R3 RR2 RW1
  go_wp2_with fail
  generalize w2.alloc (.cells #[.int .u64 0, .int .u64 0, .int .u64 0, .int .u64 0, .int .u64 0] 61 (0, 0)) = w3 at RR3 ⊢
  generalize w2.heap.size = g7 at RR3 ⊢
  have HX0 := Lib.hid (show Value.string s = .string (s.extract (16 * 0) s.size) by rw [Nat.mul_zero, ext_whole])
  have T0 := Lib.hid (show TgS w g6 g7 (clampN V) V (ls s) 0 w3 from ⟨zeroL, by unfold L5.in27 zeroL; decide, by rfl, RR3.out⟩)
  clear RR3
  go_loopw [1] (fun sv wr => ∃ k : Nat, k ≤ (s.size + 15) / 16 ∧ sv = .string (s.extract (16 * k) s.size) ∧ TgS w g6 g7 (clampN V) V (ls s) k wr) (fun sv _ => strSize sv)
  case atStart => exact ⟨0, Nat.zero_le _, HX0.out, T0.out⟩
  case round =>
    obtain ⟨k, hkn, rfl, hr⟩ := hrel
    obtain ⟨h, h27, hv, R4⟩ := hr.st
    have RR4 := Lib.hid R4
    have H27 := Lib.hid h27
    have HHV := Lib.hid hv
    have HKN := Lib.hid hkn
    have hcs := cur_size s k
    clear hr R4 h27 hv hkn T0 HX0
    obtain ⟨cur, hcur⟩ : ∃ cur, s.extract (16 * k) s.size = cur := ⟨_, rfl⟩
    rw [hcur] at hcs ⊢
    have HCUR := Lib.hid hcur
    have sb : (cur.size : Int) ≤ 100000 := by have := HS.out; omega
    have HCS := Lib.hid hcs
    by_cases hlt : 16 * k < s.size
    · have j1 : (cur.size : Int) > 0 := by omega
      have HLT := Lib.hid hlt
      by_cases hfull : 16 * k + 16 ≤ s.size
      case' pos =>
        have q1 : (16 : Int) ≤ cur.size := by omega
        have q2 : (if (cur.size : Int) < 16 then (cur.size : Int) else 16) = 16 := if_neg (by omega)
        have q3 : True := trivial
        have hb16 : (cur.extract 0 16).size = 16 := by rw [ByteArray.size_extract]; omega
        have P1 := Lib.hid (fun w => pad_full (cur.extract 0 16) w hb16)
        have S1 := Lib.hid (fun w => split_any (cur.extract 0 16) w hb16)
        have hblk := cur_head s k hfull
        rw [hcur] at hblk
        rw [hblk] at S1
        have hlv : leb (blkP (ls s) k) < 340282366920938463463374607431768211456 := by
          have := leb_lt (ls (cur.extract 0 16))
          rwa [hblk, ← hblk, length_ls, hb16, hblk, show (256 : Nat) ^ 16 = 340282366920938463463374607431768211456 by decide] at this
        have HBIN := Lib.hid (fullL_in hlv)
        have HBV := Lib.hid (show (fullL (leb (blkP (ls s) k))).v = leb (blkP (ls s) k) + 256 ^ (blkP (ls s) k).length from by
          rw [fullL_v, ← hblk, length_ls, hb16])
        have HROW := Lib.hid (fullL_row (leb (blkP (ls s) k)))
        have B26 := Lib.hid (getL_26 (splitL_in hlv).1)
        have HNX := Lib.hid (show cur.extract 16 cur.size = s.extract (16 * (k + 1)) s.size from by rw [← hcur, cur_size]; exact cur_next s k hfull)
        have S2 := Lib.hid (show ∀ w, Calls Try.prog 39 #[.string (cur.extract 0 16)] w fun e w' => e = .returned (.agg (rowF (getL (splitL (leb (blkP (ls s) k)))))) ∧ Below w.heap.size w w' from S1.out)
        obtain ⟨b, hb⟩ : ∃ b, fullL (leb (blkP (ls s) k)) = b := ⟨_, rfl⟩
        rw [hb] at HBIN HBV HROW
        generalize getL (splitL (leb (blkP (ls s) k))) = X at *
        have IX := Lib.hid (infoL X)
        have OX := Lib.hid (one_rowF X)
        have LX := Lib.hid (show (#[.int .u64 0, .int .u64 0, .int .u64 0, .int .u64 0, .int .u64 0] : Array Value).size = (rowF X).size from rfl)
        clear hcur hcs hlt hfull hb16 hblk hlv S1 hb
        go_wp2_with fail
        refine (P1.out _).mono ?_
        rintro e w4 ⟨rfl, hb4⟩
        have R5 := Lib.hid (RR4.out.on hb4)
        clear hb4 P1
        go_wp2_with fail
        refine (S2.out _).mono ?_
        rintro e w5 ⟨rfl, hb5⟩
        have R6 := (R5.out.on hb5).alloc #[.int .u64 0, .int .u64 0, .int .u64 0, .int .u64 0, .int .u64 0] 61
        simp only [List.cons_append, List.nil_append] at R6
        have RW6 := Lib.hid (R6.row 2)
        have R7 := R6.store 2 (rowF X)
        simp only [List.set_cons_zero, List.set_cons_succ] at R7
        have R8 := Lib.hid R7
        clear hb5 S2 R5 R6 R7 RR4
        go_upto_region 9 with (with_reducible refine wpList_store_row rfl 61 (.tmp 9) (.tmp 27) rfl w5.heap.size (rowF X) rfl rfl 61 #[.int .u64 0, .int .u64 0, .int .u64 0, .int .u64 0, .int .u64 0] RW6.out IX.out LX.out OX.out ?_)
        generalize World.setRow _ _ (rowF X) = w7 at R8 ⊢
        generalize w5.heap.size = g9 at R8 ⊢
        have k4 := R8.out.cell 2 4 (rowF_get _ 4 (by decide))
        have f4 := R8.out.free 2 4
        have p4 := R8.out.put 2 4 (.int .u64 ((X 4 + 16777216 : Nat) : Int))
        rw [rowF_set _ _ _ (by decide), HROW.out] at p4
        simp only [List.set_cons_zero, List.set_cons_succ] at p4
        have b4 := B26.out 4
        have q4 : ((X 4 + 16777216 : Nat) : Int) = (X 4 : Int) + 16777216 := by omega
        rw [q4] at p4
        have P4 := Lib.hid p4
        generalize X 4 = x4 at *
        have b5 : (x4 : Int) < 67108864 := by omega
        clear p4 R8 RW6 IX OX LX B26 HROW q4 b4
        go_upto_region 10 with fail
        generalize World.setCell _ _ _ = wq at P4 ⊢
        have RR9 := Lib.hid P4.out
        clear P4 k4 f4 b5
      case' neg =>
        have q1 : True := trivial
        have q2 : (if (cur.size : Int) < 16 then (cur.size : Int) else 16) = (cur.size : Int) := if_pos (by omega)
        have q3 : ((cur.size : Int) == 16) = false := by simp; omega
        have hb16 : cur.size ≤ 15 := by omega
        have P1 := Lib.hid (fun w => pad_part cur w hb16)
        have S1 := Lib.hid (fun w => split_any (padP cur) w (size_padP cur hb16))
        have hblk := cur_last s k (by omega)
        rw [hcur] at hblk
        rw [leb_padP, hblk] at S1
        have hlv : leb (blkP (ls s) k) + 256 ^ cur.size < 340282366920938463463374607431768211456 := by
          have := leb_lt (ls (padP cur))
          rwa [leb_padP, hblk, length_ls, size_padP cur hb16, show (256 : Nat) ^ 16 = 340282366920938463463374607431768211456 by decide] at this
        have HBIN := Lib.hid (splitL_in hlv).1
        have HBV := Lib.hid (show (splitL (leb (blkP (ls s) k) + 256 ^ cur.size)).v = leb (blkP (ls s) k) + 256 ^ (blkP (ls s) k).length from by
          rw [splitL_v, ← hblk, length_ls])
        have hext := ext_whole cur
        have HNX := Lib.hid (show ByteArray.empty = s.extract (16 * (k + 1)) s.size from by apply ls_inj; rw [ls_extract, show s.size - 16 * (k + 1) = 0 by omega, List.take_zero]; rfl)
        have S2 := Lib.hid (show ∀ w, Calls Try.prog 39 #[.string (padP cur)] w fun e w' => e = .returned (.agg (rowF (getL (splitL (leb (blkP (ls s) k) + 256 ^ cur.size))))) ∧ Below w.heap.size w w' from S1.out)
        obtain ⟨b, hb⟩ : ∃ b, splitL (leb (blkP (ls s) k) + 256 ^ cur.size) = b := ⟨_, rfl⟩
        rw [hb] at HBIN HBV S2
        have IX := Lib.hid (infoL (getL b))
        have OX := Lib.hid (one_rowF (getL b))
        have LX := Lib.hid (show (#[.int .u64 0, .int .u64 0, .int .u64 0, .int .u64 0, .int .u64 0] : Array Value).size = (rowF (getL b)).size from rfl)
        clear hcur hcs hlt hfull hb16 hblk hlv S1 hb
        go_wp2_with fail
        refine (P1.out _).mono ?_
        rintro e w4 ⟨rfl, hb4⟩
        have R5 := Lib.hid (RR4.out.on hb4)
        clear hb4 P1
        go_wp2_with fail
        refine (S2.out _).mono ?_
        rintro e w5 ⟨rfl, hb5⟩
        have R6 := (R5.out.on hb5).alloc #[.int .u64 0, .int .u64 0, .int .u64 0, .int .u64 0, .int .u64 0] 61
        simp only [List.cons_append, List.nil_append] at R6
        have RW6 := Lib.hid (R6.row 2)
        have R7 := R6.store 2 (rowF (getL b))
        simp only [List.set_cons_zero, List.set_cons_succ] at R7
        have RR9 := Lib.hid (show Rw w [(g6, lvA (pclampL V), 61), (g7, lvA h, 61), (w5.heap.size, lvA b, 61)] (World.setRow (w5.alloc (.cells #[.int .u64 0, .int .u64 0, .int .u64 0, .int .u64 0, .int .u64 0] 61 (0, 0))) w5.heap.size (rowF (getL b))) from R7)
        clear hb5 S2 R5 R6 R7 RR4
        go_upto_region 10 with (with_reducible refine wpList_store_row rfl 61 (.tmp 9) (.tmp 27) rfl w5.heap.size (rowF (getL b)) rfl rfl 61 #[.int .u64 0, .int .u64 0, .int .u64 0, .int .u64 0, .int .u64 0] RW6.out IX.out LX.out OX.out ?_)
        generalize World.setRow _ _ (rowF (getL b)) = wq at RR9 ⊢
        generalize w5.heap.size = g9 at RR9 ⊢
        clear RW6 IX OX LX hext
      all_goals
        have RR9 := Lib.hid (show Rw w [(g6, lvA (pclampL V), 61), (g7, rowF (prog (getL h) (fun i => getL h i + getL b i) 0), 61), (g9, rowF (getL b), 61)] wq from by rw [prog_zero]; exact RR9.out)
        have BH := Lib.hid (getL_28 (show h.in28 from by obtain ⟨h0, h1, h2, h3, h4⟩ := H27.out; unfold L5.in28; omega))
        have BB := Lib.hid (getL_26 HBIN.out)
        have ROUND := Lib.hid (tag_round H27.out HBIN.out HIN.out HHV.out)
        have HSUM := Lib.hid (addL_row h b)
        have M := Lib.hid (fun w => polymul_any (addL h b) (pclampL V) (addL_in H27.out HBIN.out) HIN.out w)
        have HNEW := Lib.hid (show hP (clampN V) (ls s) (k + 1) = (hP (clampN V) (ls s) k + (leb (blkP (ls s) k) + 256 ^ (blkP (ls s) k).length)) * clampN V % P130 from rfl)
        rw [HBV.out, ← HV.out, ← HNEW.out] at ROUND
        clear q2 q3 HNEW
        go_wp2_with fail
        obtain ⟨wo, rfl⟩ : ∃ wo : World, wo = wq := ⟨_, rfl⟩
        go_loopw [34] (fun c wr => ∃ j : Nat, j ≤ 5 ∧ c = .int .i64 j ∧ Rw w [(g6, lvA (pclampL V), 61), (g7, rowF (prog (getL h) (fun i => getL h i + getL b i) j), 61), (g9, rowF (getL b), 61)] wr) (fun c _ => 5 - (intOf c).toNat)
        case atStart => exact ⟨0, by omega, rfl, RR9.out⟩
        case round =>
          obtain ⟨j, hj, rfl, hr⟩ := hrel
          have R3 := Lib.hid hr
          clear hr RR9
          by_cases hlt : j < 5
          · have m1 : (j : Int) < 5 := by omega
            have m0 : (0 : Int) ≤ j := by omega
            have ca := R3.out.cell 1 j (rowF_get _ j hlt)
            have cb := R3.out.cell 2 j (rowF_get _ j hlt)
            have fa := R3.out.free 1 j
            rw [prog_at] at ca
            have bx := BH.out j
            have bby := BB.out j
            have put := R3.out.put 1 j (.int .u64 ((getL h j + getL b j : Nat) : Int))
            rw [rowF_set _ _ _ hlt, prog_set (getL h) (fun i => getL h i + getL b i)] at put
            simp only [List.set_cons_zero, List.set_cons_succ] at put
            have PUT := Lib.hid put
            obtain ⟨xj, hxj⟩ : ∃ n, getL h j = n := ⟨_, rfl⟩
            obtain ⟨yj, hyj⟩ : ∃ n, getL b j = n := ⟨_, rfl⟩
            rw [hxj, hyj] at put
            rw [hxj] at ca bx
            rw [hyj] at cb bby
            have hs : ((xj + yj : Nat) : Int) = (xj : Int) + (yj : Int) := by omega
            rw [hs] at put
            have PUT := Lib.hid put
            have HJ := Lib.hid hlt
            clear put hlt hs hj hxj hyj
            go_wp2_with fail
            go_still_tail 8, (by kernel_rfl)
            go_wp2_with fail
            go_roundw
            case rel => exact ⟨j + 1, by have := HJ.out; omega, by go_num, PUT.out.drew⟩
            case measure => simp [intOf]; have := HJ.out; omega
          · have m1 : ¬ ((j : Int) < 5) := by omega
            have hj5 : j = 5 := by omega
            have r4 := R3.out
            rw [hj5, prog_end, HSUM.out] at r4
            have R4 := Lib.hid r4
            have RWA := Lib.hid (r4.row 0)
            have RWB := Lib.hid (r4.row 1)
            have IA := Lib.hid (show (Try.prog.info? 61).map (·.size) = some (lvA (pclampL V)).size from infoL _)
            have IB := Lib.hid (show (Try.prog.info? 61).map (·.size) = some (lvA (addL h b)).size from infoL _)
            have IC := Lib.hid (show (Try.prog.info? 61).map (·.size) = some (lvA (mulL (addL h b) (pclampL V))).size from infoL _)
            have OC := Lib.hid (show (lvA (mulL (addL h b) (pclampL V))).all (·.oneCell') = true from one_rowF _)
            have LC := Lib.hid (show (lvA (addL h b)).size = (lvA (mulL (addL h b) (pclampL V))).size from rfl)
            obtain ⟨m, hm⟩ : ∃ m, mulL (addL h b) (pclampL V) = m := ⟨_, rfl⟩
            rw [hm] at M ROUND IC OC LC
            clear r4 hj5 hlt hj R3 hm BH BB HSUM
            go_wp2_with (first
              | (with_reducible refine wpList_load_row rfl 61 (.tmp 7) rfl g7 rfl 61 (lvA (addL h b)) (0, 0) _ RWB.out Try.underlying61 rfl IB.out ?_)
              | (with_reducible refine wpList_load_row rfl 61 (.tmp 6) rfl g6 rfl 61 (lvA (pclampL V)) (0, 0) _ RWA.out Try.underlying61 rfl IA.out ?_))
            refine (M.out _).mono ?_
            rintro e w9 ⟨rfl, hb9⟩
            have R5 := Lib.hid (R4.out.on hb9)
            have RWC := Lib.hid (R5.out.row 1)
            have R6 := R5.out.store 1 (lvA m)
            simp only [List.set_cons_zero, List.set_cons_succ] at R6
            have R7 := Lib.hid (show Rw w [(g6, lvA (pclampL V), 61), (g7, lvA m, 61)] (World.setRow w9 g7 (lvA m)) from ⟨List.Nodup.sublist (List.Sublist.cons_cons _ (List.Sublist.cons_cons _ (List.nil_sublist _))) R6.nd, fun r hr => R6.ge r (by simp at hr ⊢; rcases hr with hr | hr <;> simp [hr]), fun r hr => R6.rows r (by simp at hr ⊢; rcases hr with hr | hr <;> simp [hr]), R6.bel⟩)
            clear hb9 R6 R4 RWA RWB M
            go_wp2_with (with_reducible refine wpList_store_row rfl 61 (.tmp 7) (.tmp 48) rfl g7 (lvA m) rfl rfl 61 (lvA (addL h b)) RWC.out IC.out LC.out OC.out ?_)
            rw [HNX.out]
            go_roundw
            case rel => exact ⟨k + 1, by have := HLT.out; omega, rfl, ⟨m, ROUND.out.1, ROUND.out.2, R7.out⟩⟩
            case measure => show (s.extract (16 * (k + 1)) s.size).size < cur.size; rw [HCS.out, cur_size]; have := HLT.out; omega
    · have j1 : ¬ (cur.size : Int) > 0 := by omega
      have hkn : k = (s.size + 15) / 16 := by have := HKN.out; omega
      have LE := Lib.hid (fun w => polyleast_any h H27.out w)
      have FI := Lib.hid (fun w => F1.out (leastL h) (leastL_in H27.out) w)
      have HT := Lib.hid (show (leastL h).v + H = hP (clampN V) (ls s) ((s.size + 15) / 16) + H by rw [leastL_v H27.out, HHV.out, hkn])
      rw [HT.out, ← HR.out] at FI
      have IH := Lib.hid (show (Try.prog.info? 61).map (·.size) = some (lvA h).size from infoL _)
      have BB := Lib.hid RR4.out.bel
      clear hlt hkn hcur hcs
      go_upto_region 17 with fail
      refine wp_region_below (by kernel_rfl) (by kernel_rfl) ?_
      refine wpQuiet_load_rowP rfl 61 (.tmp 7) rfl g7 rfl 61 (lvA h) (0, 0) _ ?hC Try.underlying61 rfl IH.out ?_
      case hC => rintro w' ⟨p, rfl⟩; exact (RR4.out.on p.2).row 1
      simp only [Act.put, List.setIfInBounds_toArray, List.set_cons_zero, List.set_cons_succ]
      go_big_quiet_step (exact calls_below (LE.out _))
      repeat (go_big_quiet_step (fail))
      go_big_quiet_step (exact calls_below (FI.out _))
      repeat (go_big_quiet_step (fail))
      refine wpQuiet_nil ?_
      rintro _ ⟨p, rfl⟩
      have BP := Lib.hid (BB.out.trans (p.2.mono BB.out.size))
      generalize p.1 = wp at BP ⊢
      go_wp2_with fail
      go_ret2
      exact ⟨rfl, BP.out⟩
end Go.Proofs.Ytkfacnegfkgcgaa
