/-
  sha.ending: the last one or two blocks.
-/
import Derived.Test.YtkbfflnjbafamaaDoorShaH
import Derived.Lib.BufferWrite
namespace Go.Proofs.YtkbfflnjbafamaaDoor
open Go.RowKit MS

def bN (c m : Nat) : UInt8 := UInt8.ofNat (c / m % 256)
theorem bN_val (c m : Nat) : valB (bN c m) = .int .u8 ((c : Int) / m % 256) := by
  unfold valB bN
  have : (UInt8.ofNat (c / m % 256)).toNat = c / m % 256 := by simp
  rw [this]
  congr 1
theorem bN_one (c : Nat) : valB (bN c 1) = .int .u8 ((c : Int) % 256) := by
  rw [bN_val]
  simp
def be8 (c : Nat) : List UInt8 := [bN c 72057594037927936, bN c 281474976710656, bN c 1099511627776, bN c 4294967296, bN c 16777216, bN c 65536, bN c 256, bN c 1]
/-- The bytes behind the rest: r, the byte 128, noughts, the count of bits. -/
def endL (r : List UInt8) (c : Nat) : List UInt8 := (r ++ 128 :: List.replicate ((if r.length + 9 > 64 then 128 else 64) - r.length - 9) 0) ++ be8 c
theorem length_endL (r : List UInt8) (c : Nat) (h : r.length < 64) : (endL r c).length = if r.length + 9 > 64 then 128 else 64 := by
  unfold endL be8
  simp
  split <;> omega
structure ESt (g : Nat) (w0 : World) (L : List UInt8) (w : World) : Prop where
  ge : w0.heap.size ≤ g
  ro : w.heap[g]? = some (.cells (vls L).toArray 5 (0, 0))
  bel : Below w0.heap.size w0 w
theorem ESt.put {g : Nat} {w0 w : World} {L : List UInt8} (h : ESt g w0 L w) (i : Nat) (x : UInt8) : ESt g w0 (L.set i x) (w.setCell ⟨g, i, none⟩ (valB x)) := by
  refine ⟨h.ge, ?_, h.bel.setCell h.ge _⟩
  rw [heap_setCell_same w g i _ _ _ h.ro]
  congr 2
  apply Array.toList_inj.1
  simp [vls, List.map_set]
theorem ESt.cell {g : Nat} {w0 w : World} {L : List UInt8} (h : ESt g w0 L w) (i : Nat) (hi : i < L.length) : ∃ u, w.cell? ⟨g, i, none⟩ = some u := by
  rw [cell_of_row w g i _ _ _ h.ro]
  exact ⟨valB (L.getD i 0), by simp [vls, hi]⟩
theorem set_end (A : List UInt8) (n : Nat) (hA : A.length = n) (B : List UInt8) (k : Nat) (x : UInt8) : (A ++ B).set (n + k) x = A ++ B.set k x := by
  subst hA
  rw [List.set_append_right _ _ (by omega)]
  congr 2
  omega
theorem end_all (r : List UInt8) (c Z n : Nat) (hn : n + 8 = Z) (hr : r.length + 9 ≤ Z) (hZ : Z = if r.length + 9 > 64 then 128 else 64) :
    (((((((((r ++ List.replicate (Z - r.length) 0).set r.length 128).set (n + 7) (bN c 1)).set (n + 6) (bN c 256)).set (n + 5) (bN c 65536)).set (n + 4) (bN c 16777216)).set (n + 3) (bN c 4294967296)).set (n + 2) (bN c 1099511627776)).set (n + 1) (bN c 281474976710656)).set (n + 0) (bN c 72057594037927936) = endL r c := by
  have e : (r ++ List.replicate (Z - r.length) 0).set r.length 128 = (r ++ 128 :: List.replicate (Z - r.length - 9) 0) ++ [0, 0, 0, 0, 0, 0, 0, 0] := by
    obtain ⟨z, hz⟩ : ∃ z, Z - r.length = z + 9 := ⟨Z - r.length - 9, by omega⟩
    rw [hz, show z + 9 - 9 = z by omega, List.set_append_right _ _ (Nat.le_refl _), Nat.sub_self, show z + 9 = (z + 8) + 1 by omega, List.replicate_succ, List.set_cons_zero, List.append_assoc]
    congr 1
    rw [List.cons_append]
    congr 1
    rw [← List.replicate_append_replicate]
    rfl
  have hl : (r ++ 128 :: List.replicate (Z - r.length - 9) (0 : UInt8)).length = n := by simp; omega
  rw [e, set_end _ n hl, set_end _ n hl, set_end _ n hl, set_end _ n hl, set_end _ n hl, set_end _ n hl, set_end _ n hl, set_end _ n hl]
  unfold endL be8
  rw [← hZ]
  rfl
theorem zeros_made (m : Nat) : (madeCells #[Value.int .u8 0] m).toList = vls (List.replicate m 0) := by
  rw [toList_madeCells_one, vls, List.map_replicate]
  rfl
theorem est_made {g : Nat} {w w' : World} {n : Nat} (h : w'.ownsRow w.heap.size 5 1 (.slice (some ⟨g, 0, none⟩) n n) n (vls (List.replicate n 0))) (hw : w.grownBy w' none) : ESt g w (List.replicate n 0) w' := by
  rcases h.2 with ⟨h', _⟩ | ⟨g', cap', cur, h', hb, hh, _, _, hsz, htk⟩
  · simp at h'
  · simp only [Value.slice.injEq, Option.some.injEq, Addr.mk.injEq, and_true, true_and] at h'
    obtain ⟨rfl, rfl⟩ := h'
    refine ⟨by omega, ?_, (Below.refl _ _).grown hw (Nat.le_refl _) (by intro k e; cases e)⟩
    rw [hh]
    congr 2
    apply Array.toList_inj.1
    rw [← htk, List.take_of_length_le (by rw [Array.length_toList, hsz]; exact Nat.le_refl _)]
theorem est_copied {g : Nat} {w0 w : World} {n : Nat} (h : ESt g w0 (List.replicate n 0) w) (r : ByteArray) :
    ESt g w0 (ls r ++ List.replicate (n - (ls r).length) 0) (w.setRow g ((vls (List.replicate n 0)).toArray.toList.take 0 ++ Lib.byteCells r.data.toList ++ (vls (List.replicate n 0)).toArray.toList.drop (0 + r.size)).toArray) := by
  refine ⟨h.ge, ?_, below_setRow h.bel h.ge _⟩
  rw [setRow_heap w g _ _ _ _ h.ro]
  congr 2
  apply Array.toList_inj.1
  simp [vls, Lib.byteCells, ls, valB]
theorem est_conv {g : Nat} {w0 w : World} {L : List UInt8} (h : ESt g w0 L w) (n : Nat) (hn : L.length = n) :
    (convert 33 9 (.slice (some ⟨g, 0, none⟩) n n)).run Tryd.prog w = .ok (.string (bs L)) w := by
  refine run_bytes_to_string w 33 9 5 Tryd.underlying33 Tryd.underlying5 Tryd.underlying9 g 0 n n L hn (fun j hj => ?_)
  rw [Nat.zero_add, cell_of_row w g j _ _ _ h.ro]
  simp [vls, valB, hj]
theorem wpList_copy_est {w : World} {ops : Array Oper} {rest : List Oper} {o : Oper} {a : Act} {Q : Exit → Act → World → Prop} (hgd : o.guard = none) (d s : Operand)
    (ho : o.op = .call { callee := .builtin .copy, args := #[d, s], argTypes := #[33, 9] })
    (g n dCap : Nat) (str : ByteArray) (hd : a.eval d = .slice (some ⟨g, 0, none⟩) n dCap) (hs : a.eval s = .string str)
    (w0 : World) (hg : ESt g w0 (List.replicate n 0) w) (hle : str.size ≤ n)
    (h : ∀ w', ESt g w0 (ls str ++ List.replicate (n - (ls str).length) 0) w' → wpList Tryd.prog ops Q rest (a.put o.dst (goInt str.size)) w') : wpList Tryd.prog ops Q (o :: rest) a w := by
  refine wpList_plain hgd fun K hK => ?_
  have hrun := Lib.run_copy_row_string (P := Tryd.prog) w 33 9 o.type 5 g 0 n dCap str (vls (List.replicate n 0)).toArray 5 Tryd.underlying33 (by kernel_rfl) hg.ro hle (by simpa [vls] using hle)
  have h' := h _ (est_copied hg str)
  generalize (w.setRow g _) = w' at hrun h'
  unfold Oper.wp
  simp [execOp, ho, resolve, invoke, builtin, hd, hs, hrun, Result.andThen]
  exact hK _ _ h'

set_option maxRecDepth 100000 in
set_option maxHeartbeats 1000000 in
theorem ending64 (r : ByteArray) (c : Nat) (w : World) (hr : r.size + 9 ≤ 64) :
    Calls Tryd.prog 33 #[.string r, .int .u64 (c : Int)] w fun e w' => e = .returned (.string (bs (endL (ls r) c))) ∧ Below w.heap.size w w' := by
  obtain ⟨i8, hj0, hy0, hy1, hy2⟩ : ∃ i, Tryd.prog.info? 5 = some i ∧ i.zero = some (.int .u8 0) ∧ i.size = 1 ∧ i.bytes = 1 := ⟨_, rfl, rfl, rfl, rfl⟩
  have hl : (ls r).length = r.size := length_ls r
  have rb : (r.size : Int) + 9 ≤ 64 := by omega
  have rc : (r.size : Int) < 64 := by omega
  have rn : (0 : Int) ≤ r.size := by omega
  have rd : (r.size : Int) < 64 := by omega
  have HR := Lib.hid (show r.size + 9 ≤ 64 by omega)
  have HZ := Lib.hid (show 64 = if (ls r).length + 9 > 64 then 128 else 64 by rw [hl]; rw [if_neg (by omega)])
  have HLS := Lib.hid hl
  clear hr hl
  go_enter Tryd.func33, Tryd.ntmps33
  have HB1 := Lib.hid (show i8.bytes * 64 ≤ 281474976710656 by rw [hy2]; decide)
  go_wp2_with (with_reducible refine wpList_make_full _ rfl (.tmp 12) (.tmp 12) 33 rfl w.heap.size 5 i8 (.int .u8 0) 1 Tryd.underlying33 hj0 hy0 hy1 .i64 .i64 64 64 64 rfl rfl rfl rfl HB1.out (by decide) (Nat.le_refl _) ?_)
  intro w1 g1 g2
  have hz : (madeCells (Value.int .u8 0).cells (64 * 1)).toList = vls (List.replicate 64 0) := zeros_made 64
  have g1' : w1.ownsRow w.heap.size 5 1 (.slice (some ⟨w.heap.size, 0, none⟩) 64 64) 64 (vls (List.replicate 64 0)) := by rw [← hz]; exact g1
  have ST := Lib.hid (est_made g1' g2)
  clear g1 g2 hz g1'
  generalize w.heap.size = g at ST ⊢
  go_wp2_with (with_reducible refine wpList_copy_est rfl (.tmp 14) (.tmp 15) rfl g 64 64 r rfl rfl w ST.out ?hle ?_)
  case hle => have := HR.out; omega
  intro w2 st0
  obtain ⟨u, cu⟩ := st0.cell r.size (by have := HR.out; have := HLS.out; simp; omega)
  have fu := frozen_of_row _ g r.size _ _ st0.ro
  have HST := Lib.hid st0
  clear st0 ST
  go_wp2_with fail
  have st1 : ESt g w ((ls r ++ List.replicate (64 - (ls r).length) 0).set (ls r).length 128) (w2.setCell ⟨g, r.size, none⟩ (.int .u8 128)) := by
    have := HST.out.put r.size 128
    rw [← HLS.out] at this ⊢
    exact this
  generalize hw3 : World.setCell w2 _ _ = w3
  have hw3' : w2.setCell ⟨g, r.size, none⟩ (.int .u8 128) = w3 := hw3
  rw [hw3'] at st1
  have hlen : ((ls r ++ List.replicate (64 - (ls r).length) 0).set (ls r).length 128).length = 64 := by have := HR.out; have := HLS.out; simp; omega
  generalize hL1 : (ls r ++ List.replicate (64 - (ls r).length) 0).set (ls r).length 128 = L1 at st1 hlen
  have HL1 := Lib.hid hL1
  have HN1 := Lib.hid hlen
  clear hw3 hw3' hL1 hlen HST cu fu
  refine wp_loop_rounds 9 ?_
  obtain ⟨u, cu⟩ := st1.cell 63 (by rw [HN1.out]; decide)
  have fu := frozen_of_row _ g 63 _ _ st1.ro
  rw [rounds_succ]
  go_wp2_with fail
  have st2 : ESt g w (L1.set (56 + 7) (bN c 1)) (w3.setCell ⟨g, 63, none⟩ (.int .u8 ((c : Int) % 256))) := by
    have := st1.put 63 (bN c 1)
    rw [bN_one] at this
    exact this
  generalize hw : World.setCell w3 _ _ = w4
  have hw' : w3.setCell ⟨g, 63, none⟩ (.int .u8 ((c : Int) % 256)) = w4 := hw
  rw [hw'] at st2
  obtain ⟨L2, hL⟩ : ∃ L, L = L1.set (56 + 7) (bN c 1) := ⟨_, rfl⟩
  rw [← hL] at st2
  have HL2 := Lib.hid hL
  have HN2 := Lib.hid (show L2.length = 64 by rw [hL, List.length_set, HN1.out])
  clear hw hw' hL cu fu st1
  obtain ⟨u, cu⟩ := st2.cell 62 (by rw [HN2.out]; decide)
  have fu := frozen_of_row _ g 62 _ _ st2.ro
  rw [rounds_succ]
  go_wp2_with fail
  have st3 : ESt g w (L2.set (56 + 6) (bN c 256)) (w4.setCell ⟨g, 62, none⟩ (.int .u8 ((c : Int) / 256 % 256))) := by
    have := st2.put 62 (bN c 256)
    rw [bN_val] at this
    exact this
  generalize hw : World.setCell w4 _ _ = w5
  have hw' : w4.setCell ⟨g, 62, none⟩ (.int .u8 ((c : Int) / 256 % 256)) = w5 := hw
  rw [hw'] at st3
  obtain ⟨L3, hL⟩ : ∃ L, L = L2.set (56 + 6) (bN c 256) := ⟨_, rfl⟩
  rw [← hL] at st3
  have HL3 := Lib.hid hL
  have HN3 := Lib.hid (show L3.length = 64 by rw [hL, List.length_set, HN2.out])
  clear hw hw' hL cu fu st2
  obtain ⟨u, cu⟩ := st3.cell 61 (by rw [HN3.out]; decide)
  have fu := frozen_of_row _ g 61 _ _ st3.ro
  rw [rounds_succ]
  go_wp2_with fail
  have st4 : ESt g w (L3.set (56 + 5) (bN c 65536)) (w5.setCell ⟨g, 61, none⟩ (.int .u8 ((c : Int) / 65536 % 256))) := by
    have := st3.put 61 (bN c 65536)
    rw [bN_val] at this
    exact this
  generalize hw : World.setCell w5 _ _ = w6
  have hw' : w5.setCell ⟨g, 61, none⟩ (.int .u8 ((c : Int) / 65536 % 256)) = w6 := hw
  rw [hw'] at st4
  obtain ⟨L4, hL⟩ : ∃ L, L = L3.set (56 + 5) (bN c 65536) := ⟨_, rfl⟩
  rw [← hL] at st4
  have HL4 := Lib.hid hL
  have HN4 := Lib.hid (show L4.length = 64 by rw [hL, List.length_set, HN3.out])
  clear hw hw' hL cu fu st3
  obtain ⟨u, cu⟩ := st4.cell 60 (by rw [HN4.out]; decide)
  have fu := frozen_of_row _ g 60 _ _ st4.ro
  rw [rounds_succ]
  go_wp2_with fail
  have st5 : ESt g w (L4.set (56 + 4) (bN c 16777216)) (w6.setCell ⟨g, 60, none⟩ (.int .u8 ((c : Int) / 16777216 % 256))) := by
    have := st4.put 60 (bN c 16777216)
    rw [bN_val] at this
    exact this
  generalize hw : World.setCell w6 _ _ = w7
  have hw' : w6.setCell ⟨g, 60, none⟩ (.int .u8 ((c : Int) / 16777216 % 256)) = w7 := hw
  rw [hw'] at st5
  obtain ⟨L5, hL⟩ : ∃ L, L = L4.set (56 + 4) (bN c 16777216) := ⟨_, rfl⟩
  rw [← hL] at st5
  have HL5 := Lib.hid hL
  have HN5 := Lib.hid (show L5.length = 64 by rw [hL, List.length_set, HN4.out])
  clear hw hw' hL cu fu st4
  obtain ⟨u, cu⟩ := st5.cell 59 (by rw [HN5.out]; decide)
  have fu := frozen_of_row _ g 59 _ _ st5.ro
  rw [rounds_succ]
  go_wp2_with fail
  have st6 : ESt g w (L5.set (56 + 3) (bN c 4294967296)) (w7.setCell ⟨g, 59, none⟩ (.int .u8 ((c : Int) / 4294967296 % 256))) := by
    have := st5.put 59 (bN c 4294967296)
    rw [bN_val] at this
    exact this
  generalize hw : World.setCell w7 _ _ = w8
  have hw' : w7.setCell ⟨g, 59, none⟩ (.int .u8 ((c : Int) / 4294967296 % 256)) = w8 := hw
  rw [hw'] at st6
  obtain ⟨L6, hL⟩ : ∃ L, L = L5.set (56 + 3) (bN c 4294967296) := ⟨_, rfl⟩
  rw [← hL] at st6
  have HL6 := Lib.hid hL
  have HN6 := Lib.hid (show L6.length = 64 by rw [hL, List.length_set, HN5.out])
  clear hw hw' hL cu fu st5
  obtain ⟨u, cu⟩ := st6.cell 58 (by rw [HN6.out]; decide)
  have fu := frozen_of_row _ g 58 _ _ st6.ro
  rw [rounds_succ]
  go_wp2_with fail
  have st7 : ESt g w (L6.set (56 + 2) (bN c 1099511627776)) (w8.setCell ⟨g, 58, none⟩ (.int .u8 ((c : Int) / 1099511627776 % 256))) := by
    have := st6.put 58 (bN c 1099511627776)
    rw [bN_val] at this
    exact this
  generalize hw : World.setCell w8 _ _ = w9
  have hw' : w8.setCell ⟨g, 58, none⟩ (.int .u8 ((c : Int) / 1099511627776 % 256)) = w9 := hw
  rw [hw'] at st7
  obtain ⟨L7, hL⟩ : ∃ L, L = L6.set (56 + 2) (bN c 1099511627776) := ⟨_, rfl⟩
  rw [← hL] at st7
  have HL7 := Lib.hid hL
  have HN7 := Lib.hid (show L7.length = 64 by rw [hL, List.length_set, HN6.out])
  clear hw hw' hL cu fu st6
  obtain ⟨u, cu⟩ := st7.cell 57 (by rw [HN7.out]; decide)
  have fu := frozen_of_row _ g 57 _ _ st7.ro
  rw [rounds_succ]
  go_wp2_with fail
  have st8 : ESt g w (L7.set (56 + 1) (bN c 281474976710656)) (w9.setCell ⟨g, 57, none⟩ (.int .u8 ((c : Int) / 281474976710656 % 256))) := by
    have := st7.put 57 (bN c 281474976710656)
    rw [bN_val] at this
    exact this
  generalize hw : World.setCell w9 _ _ = w10
  have hw' : w9.setCell ⟨g, 57, none⟩ (.int .u8 ((c : Int) / 281474976710656 % 256)) = w10 := hw
  rw [hw'] at st8
  obtain ⟨L8, hL⟩ : ∃ L, L = L7.set (56 + 1) (bN c 281474976710656) := ⟨_, rfl⟩
  rw [← hL] at st8
  have HL8 := Lib.hid hL
  have HN8 := Lib.hid (show L8.length = 64 by rw [hL, List.length_set, HN7.out])
  clear hw hw' hL cu fu st7
  obtain ⟨u, cu⟩ := st8.cell 56 (by rw [HN8.out]; decide)
  have fu := frozen_of_row _ g 56 _ _ st8.ro
  rw [rounds_succ]
  go_wp2_with fail
  have st9 : ESt g w (L8.set (56 + 0) (bN c 72057594037927936)) (w10.setCell ⟨g, 56, none⟩ (.int .u8 ((c : Int) / 72057594037927936 % 256))) := by
    have := st8.put 56 (bN c 72057594037927936)
    rw [bN_val] at this
    exact this
  generalize hw : World.setCell w10 _ _ = w11
  have hw' : w10.setCell ⟨g, 56, none⟩ (.int .u8 ((c : Int) / 72057594037927936 % 256)) = w11 := hw
  rw [hw'] at st9
  obtain ⟨L9, hL⟩ : ∃ L, L = L8.set (56 + 0) (bN c 72057594037927936) := ⟨_, rfl⟩
  rw [← hL] at st9
  have HL9 := Lib.hid hL
  have HN9 := Lib.hid (show L9.length = 64 by rw [hL, List.length_set, HN8.out])
  clear hw hw' hL cu fu st8
  rw [rounds_succ]
  have HF := Lib.hid (show L9 = endL (ls r) c by
    rw [HL9.out, HL8.out, HL7.out, HL6.out, HL5.out, HL4.out, HL3.out, HL2.out, ← HL1.out]
    exact end_all (ls r) c 64 56 rfl (by have := HR.out; have := HLS.out; omega) HZ.out)
  have hcv := est_conv st9 64 HN9.out
  have HB := Lib.hid st9.bel
  clear st9
  go_wp2_with fail
  go_ret
  exact ⟨by rw [HF.out]; rfl, HB.out⟩

set_option maxRecDepth 100000 in
set_option maxHeartbeats 1000000 in
theorem ending128 (r : ByteArray) (c : Nat) (w : World) (hr : r.size < 64 ∧ r.size + 9 > 64) :
    Calls Tryd.prog 33 #[.string r, .int .u64 (c : Int)] w fun e w' => e = .returned (.string (bs (endL (ls r) c))) ∧ Below w.heap.size w w' := by
  obtain ⟨i8, hj0, hy0, hy1, hy2⟩ : ∃ i, Tryd.prog.info? 5 = some i ∧ i.zero = some (.int .u8 0) ∧ i.size = 1 ∧ i.bytes = 1 := ⟨_, rfl, rfl, rfl, rfl⟩
  have hl : (ls r).length = r.size := length_ls r
  have rb : (r.size : Int) + 9 > 64 := by omega
  have rc : (r.size : Int) < 128 := by omega
  have rn : (0 : Int) ≤ r.size := by omega
  have rd : (r.size : Int) < 64 := by omega
  have HR := Lib.hid (show r.size + 9 ≤ 128 by omega)
  have HZ := Lib.hid (show 128 = if (ls r).length + 9 > 64 then 128 else 64 by rw [hl]; rw [if_pos (by omega)])
  have HLS := Lib.hid hl
  clear hr hl
  go_enter Tryd.func33, Tryd.ntmps33
  have HB1 := Lib.hid (show i8.bytes * 128 ≤ 281474976710656 by rw [hy2]; decide)
  go_wp2_with (with_reducible refine wpList_make_full _ rfl (.tmp 12) (.tmp 12) 33 rfl w.heap.size 5 i8 (.int .u8 0) 1 Tryd.underlying33 hj0 hy0 hy1 .i64 .i64 128 128 128 rfl rfl rfl rfl HB1.out (by decide) (Nat.le_refl _) ?_)
  intro w1 g1 g2
  have hz : (madeCells (Value.int .u8 0).cells (128 * 1)).toList = vls (List.replicate 128 0) := zeros_made 128
  have g1' : w1.ownsRow w.heap.size 5 1 (.slice (some ⟨w.heap.size, 0, none⟩) 128 128) 128 (vls (List.replicate 128 0)) := by rw [← hz]; exact g1
  have ST := Lib.hid (est_made g1' g2)
  clear g1 g2 hz g1'
  generalize w.heap.size = g at ST ⊢
  go_wp2_with (with_reducible refine wpList_copy_est rfl (.tmp 14) (.tmp 15) rfl g 128 128 r rfl rfl w ST.out ?hle ?_)
  case hle => have := HR.out; omega
  intro w2 st0
  obtain ⟨u, cu⟩ := st0.cell r.size (by have := HR.out; have := HLS.out; simp; omega)
  have fu := frozen_of_row _ g r.size _ _ st0.ro
  have HST := Lib.hid st0
  clear st0 ST
  go_wp2_with fail
  have st1 : ESt g w ((ls r ++ List.replicate (128 - (ls r).length) 0).set (ls r).length 128) (w2.setCell ⟨g, r.size, none⟩ (.int .u8 128)) := by
    have := HST.out.put r.size 128
    rw [← HLS.out] at this ⊢
    exact this
  generalize hw3 : World.setCell w2 _ _ = w3
  have hw3' : w2.setCell ⟨g, r.size, none⟩ (.int .u8 128) = w3 := hw3
  rw [hw3'] at st1
  have hlen : ((ls r ++ List.replicate (128 - (ls r).length) 0).set (ls r).length 128).length = 128 := by have := HR.out; have := HLS.out; simp; omega
  generalize hL1 : (ls r ++ List.replicate (128 - (ls r).length) 0).set (ls r).length 128 = L1 at st1 hlen
  have HL1 := Lib.hid hL1
  have HN1 := Lib.hid hlen
  clear hw3 hw3' hL1 hlen HST cu fu
  refine wp_loop_rounds 9 ?_
  obtain ⟨u, cu⟩ := st1.cell 127 (by rw [HN1.out]; decide)
  have fu := frozen_of_row _ g 127 _ _ st1.ro
  rw [rounds_succ]
  go_wp2_with fail
  have st2 : ESt g w (L1.set (120 + 7) (bN c 1)) (w3.setCell ⟨g, 127, none⟩ (.int .u8 ((c : Int) % 256))) := by
    have := st1.put 127 (bN c 1)
    rw [bN_one] at this
    exact this
  generalize hw : World.setCell w3 _ _ = w4
  have hw' : w3.setCell ⟨g, 127, none⟩ (.int .u8 ((c : Int) % 256)) = w4 := hw
  rw [hw'] at st2
  obtain ⟨L2, hL⟩ : ∃ L, L = L1.set (120 + 7) (bN c 1) := ⟨_, rfl⟩
  rw [← hL] at st2
  have HL2 := Lib.hid hL
  have HN2 := Lib.hid (show L2.length = 128 by rw [hL, List.length_set, HN1.out])
  clear hw hw' hL cu fu st1
  obtain ⟨u, cu⟩ := st2.cell 126 (by rw [HN2.out]; decide)
  have fu := frozen_of_row _ g 126 _ _ st2.ro
  rw [rounds_succ]
  go_wp2_with fail
  have st3 : ESt g w (L2.set (120 + 6) (bN c 256)) (w4.setCell ⟨g, 126, none⟩ (.int .u8 ((c : Int) / 256 % 256))) := by
    have := st2.put 126 (bN c 256)
    rw [bN_val] at this
    exact this
  generalize hw : World.setCell w4 _ _ = w5
  have hw' : w4.setCell ⟨g, 126, none⟩ (.int .u8 ((c : Int) / 256 % 256)) = w5 := hw
  rw [hw'] at st3
  obtain ⟨L3, hL⟩ : ∃ L, L = L2.set (120 + 6) (bN c 256) := ⟨_, rfl⟩
  rw [← hL] at st3
  have HL3 := Lib.hid hL
  have HN3 := Lib.hid (show L3.length = 128 by rw [hL, List.length_set, HN2.out])
  clear hw hw' hL cu fu st2
  obtain ⟨u, cu⟩ := st3.cell 125 (by rw [HN3.out]; decide)
  have fu := frozen_of_row _ g 125 _ _ st3.ro
  rw [rounds_succ]
  go_wp2_with fail
  have st4 : ESt g w (L3.set (120 + 5) (bN c 65536)) (w5.setCell ⟨g, 125, none⟩ (.int .u8 ((c : Int) / 65536 % 256))) := by
    have := st3.put 125 (bN c 65536)
    rw [bN_val] at this
    exact this
  generalize hw : World.setCell w5 _ _ = w6
  have hw' : w5.setCell ⟨g, 125, none⟩ (.int .u8 ((c : Int) / 65536 % 256)) = w6 := hw
  rw [hw'] at st4
  obtain ⟨L4, hL⟩ : ∃ L, L = L3.set (120 + 5) (bN c 65536) := ⟨_, rfl⟩
  rw [← hL] at st4
  have HL4 := Lib.hid hL
  have HN4 := Lib.hid (show L4.length = 128 by rw [hL, List.length_set, HN3.out])
  clear hw hw' hL cu fu st3
  obtain ⟨u, cu⟩ := st4.cell 124 (by rw [HN4.out]; decide)
  have fu := frozen_of_row _ g 124 _ _ st4.ro
  rw [rounds_succ]
  go_wp2_with fail
  have st5 : ESt g w (L4.set (120 + 4) (bN c 16777216)) (w6.setCell ⟨g, 124, none⟩ (.int .u8 ((c : Int) / 16777216 % 256))) := by
    have := st4.put 124 (bN c 16777216)
    rw [bN_val] at this
    exact this
  generalize hw : World.setCell w6 _ _ = w7
  have hw' : w6.setCell ⟨g, 124, none⟩ (.int .u8 ((c : Int) / 16777216 % 256)) = w7 := hw
  rw [hw'] at st5
  obtain ⟨L5, hL⟩ : ∃ L, L = L4.set (120 + 4) (bN c 16777216) := ⟨_, rfl⟩
  rw [← hL] at st5
  have HL5 := Lib.hid hL
  have HN5 := Lib.hid (show L5.length = 128 by rw [hL, List.length_set, HN4.out])
  clear hw hw' hL cu fu st4
  obtain ⟨u, cu⟩ := st5.cell 123 (by rw [HN5.out]; decide)
  have fu := frozen_of_row _ g 123 _ _ st5.ro
  rw [rounds_succ]
  go_wp2_with fail
  have st6 : ESt g w (L5.set (120 + 3) (bN c 4294967296)) (w7.setCell ⟨g, 123, none⟩ (.int .u8 ((c : Int) / 4294967296 % 256))) := by
    have := st5.put 123 (bN c 4294967296)
    rw [bN_val] at this
    exact this
  generalize hw : World.setCell w7 _ _ = w8
  have hw' : w7.setCell ⟨g, 123, none⟩ (.int .u8 ((c : Int) / 4294967296 % 256)) = w8 := hw
  rw [hw'] at st6
  obtain ⟨L6, hL⟩ : ∃ L, L = L5.set (120 + 3) (bN c 4294967296) := ⟨_, rfl⟩
  rw [← hL] at st6
  have HL6 := Lib.hid hL
  have HN6 := Lib.hid (show L6.length = 128 by rw [hL, List.length_set, HN5.out])
  clear hw hw' hL cu fu st5
  obtain ⟨u, cu⟩ := st6.cell 122 (by rw [HN6.out]; decide)
  have fu := frozen_of_row _ g 122 _ _ st6.ro
  rw [rounds_succ]
  go_wp2_with fail
  have st7 : ESt g w (L6.set (120 + 2) (bN c 1099511627776)) (w8.setCell ⟨g, 122, none⟩ (.int .u8 ((c : Int) / 1099511627776 % 256))) := by
    have := st6.put 122 (bN c 1099511627776)
    rw [bN_val] at this
    exact this
  generalize hw : World.setCell w8 _ _ = w9
  have hw' : w8.setCell ⟨g, 122, none⟩ (.int .u8 ((c : Int) / 1099511627776 % 256)) = w9 := hw
  rw [hw'] at st7
  obtain ⟨L7, hL⟩ : ∃ L, L = L6.set (120 + 2) (bN c 1099511627776) := ⟨_, rfl⟩
  rw [← hL] at st7
  have HL7 := Lib.hid hL
  have HN7 := Lib.hid (show L7.length = 128 by rw [hL, List.length_set, HN6.out])
  clear hw hw' hL cu fu st6
  obtain ⟨u, cu⟩ := st7.cell 121 (by rw [HN7.out]; decide)
  have fu := frozen_of_row _ g 121 _ _ st7.ro
  rw [rounds_succ]
  go_wp2_with fail
  have st8 : ESt g w (L7.set (120 + 1) (bN c 281474976710656)) (w9.setCell ⟨g, 121, none⟩ (.int .u8 ((c : Int) / 281474976710656 % 256))) := by
    have := st7.put 121 (bN c 281474976710656)
    rw [bN_val] at this
    exact this
  generalize hw : World.setCell w9 _ _ = w10
  have hw' : w9.setCell ⟨g, 121, none⟩ (.int .u8 ((c : Int) / 281474976710656 % 256)) = w10 := hw
  rw [hw'] at st8
  obtain ⟨L8, hL⟩ : ∃ L, L = L7.set (120 + 1) (bN c 281474976710656) := ⟨_, rfl⟩
  rw [← hL] at st8
  have HL8 := Lib.hid hL
  have HN8 := Lib.hid (show L8.length = 128 by rw [hL, List.length_set, HN7.out])
  clear hw hw' hL cu fu st7
  obtain ⟨u, cu⟩ := st8.cell 120 (by rw [HN8.out]; decide)
  have fu := frozen_of_row _ g 120 _ _ st8.ro
  rw [rounds_succ]
  go_wp2_with fail
  have st9 : ESt g w (L8.set (120 + 0) (bN c 72057594037927936)) (w10.setCell ⟨g, 120, none⟩ (.int .u8 ((c : Int) / 72057594037927936 % 256))) := by
    have := st8.put 120 (bN c 72057594037927936)
    rw [bN_val] at this
    exact this
  generalize hw : World.setCell w10 _ _ = w11
  have hw' : w10.setCell ⟨g, 120, none⟩ (.int .u8 ((c : Int) / 72057594037927936 % 256)) = w11 := hw
  rw [hw'] at st9
  obtain ⟨L9, hL⟩ : ∃ L, L = L8.set (120 + 0) (bN c 72057594037927936) := ⟨_, rfl⟩
  rw [← hL] at st9
  have HL9 := Lib.hid hL
  have HN9 := Lib.hid (show L9.length = 128 by rw [hL, List.length_set, HN8.out])
  clear hw hw' hL cu fu st8
  rw [rounds_succ]
  have HF := Lib.hid (show L9 = endL (ls r) c by
    rw [HL9.out, HL8.out, HL7.out, HL6.out, HL5.out, HL4.out, HL3.out, HL2.out, ← HL1.out]
    exact end_all (ls r) c 128 120 rfl (by have := HR.out; have := HLS.out; omega) HZ.out)
  have hcv := est_conv st9 128 HN9.out
  have HB := Lib.hid st9.bel
  clear st9
  go_wp2_with fail
  go_ret
  exact ⟨by rw [HF.out]; rfl, HB.out⟩
end Go.Proofs.YtkbfflnjbafamaaDoor
