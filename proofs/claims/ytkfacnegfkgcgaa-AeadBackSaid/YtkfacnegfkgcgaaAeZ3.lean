/-
  Texts of this seat, put together: PWa, PWb, PWc, PWd, PWe, PWf, PWg, PWh, SameP, AeA, AeB, AeC.
-/
import Derived.Test.YtkfacnegfkgcgaaAeZ2
import Derived.Deep.DeepCutAuto
import Derived.Shelf.Spec.BitsCarry

/-
  poly.word, poly.split, poly.clamp: the walks.
-/
namespace Go.Proofs.Ytkfacnegfkgcgaa
open Go.RowKit MS

/-- A number's five cells. -/
def lvA (x : L5) : Array Value := rowF (getL x)
theorem ext4P (s : ByteArray) (j : Nat) (h : j + 4 ≤ s.size) : s.extract j (j + 4) = ByteArray.mk #[(ls s).getD j 0, (ls s).getD (j + 1) 0, (ls s).getD (j + 2) 0, (ls s).getD (j + 3) 0] := by
  apply ls_inj
  rw [ls_extract]
  have hl := length_ls s
  show ((ls s).drop j).take (j + 4 - j) = [_, _, _, _]
  generalize ls s = l at hl
  rw [show j + 4 - j = 4 by omega]
  apply List.ext_getElem
  · simp; omega
  · intro i h1 h2
    simp at h1
    have h4 : i < 4 := by omega
    have hi : j + i < l.length := by omega
    match i, h4 with
    | 0, _ => simp [show j < l.length by omega]
    | 1, _ => simp [show j + 1 < l.length by omega]
    | 2, _ => simp [show j + 2 < l.length by omega]
    | 3, _ => simp [show j + 3 < l.length by omega]

theorem wr64 (n : Nat) (h : n < 18446744073709551616) : IntKind.u64.wrap (n : Int) = ((n : Nat) : Int) := by
  rw [IntKind.wrap_u64]
  omega
theorem or_mulP (a b k : Nat) (h : a < 2 ^ k) : a ||| b * 2 ^ k = b * 2 ^ k + a := by
  rw [Nat.or_comm, ← Nat.shiftLeft_eq, Nat.shiftLeft_add_eq_or_of_lt h]
theorem le_or4u (x0 x1 x2 x3 : UInt8) (h0 : 0 < (ByteArray.mk #[x0, x1, x2, x3]).size) (h1 : 1 < (ByteArray.mk #[x0, x1, x2, x3]).size) (h2 : 2 < (ByteArray.mk #[x0, x1, x2, x3]).size) (h3 : 3 < (ByteArray.mk #[x0, x1, x2, x3]).size) :
    bits .or .u64 (bits .or .u64 (bits .or .u64 (IntKind.u64.wrap (((ByteArray.mk #[x0, x1, x2, x3])[0]'h0).toNat : Int)) (IntKind.u64.wrap (IntKind.u64.wrap (((ByteArray.mk #[x0, x1, x2, x3])[1]'h1).toNat : Int) * 256))) (IntKind.u64.wrap (IntKind.u64.wrap (((ByteArray.mk #[x0, x1, x2, x3])[2]'h2).toNat : Int) * 65536))) (IntKind.u64.wrap (IntKind.u64.wrap (((ByteArray.mk #[x0, x1, x2, x3])[3]'h3).toNat : Int) * 16777216))
      = ((leb [x0, x1, x2, x3] : Nat) : Int) := by
  have e0 : ((ByteArray.mk #[x0, x1, x2, x3])[0]'h0) = x0 := rfl
  have e1 : ((ByteArray.mk #[x0, x1, x2, x3])[1]'h1) = x1 := rfl
  have e2 : ((ByteArray.mk #[x0, x1, x2, x3])[2]'h2) = x2 := rfl
  have e3 : ((ByteArray.mk #[x0, x1, x2, x3])[3]'h3) = x3 := rfl
  rw [e0, e1, e2, e3]
  have b0 := x0.toNat_lt
  have b1 := x1.toNat_lt
  have b2 := x2.toNat_lt
  have b3 := x3.toNat_lt
  have hle : leb [x0, x1, x2, x3] = x3.toNat * 16777216 + (x2.toNat * 65536 + (x1.toNat * 256 + x0.toNat)) := by
    simp only [leb]; omega
  rw [hle]
  generalize x0.toNat = a at *
  generalize x1.toNat = b at *
  generalize x2.toNat = c at *
  generalize x3.toNat = d at *
  have w1 : IntKind.u64.wrap ((b : Int)) = ((b : Nat) : Int) := wr64 b (by omega)
  have w2 : IntKind.u64.wrap ((c : Int)) = ((c : Nat) : Int) := wr64 c (by omega)
  have w3 : IntKind.u64.wrap ((d : Int)) = ((d : Nat) : Int) := wr64 d (by omega)
  have w0 : IntKind.u64.wrap ((a : Int)) = ((a : Nat) : Int) := wr64 a (by omega)
  have v1 : IntKind.u64.wrap ((b : Int) * 256) = ((b * 256 : Nat) : Int) := wr64 (b * 256) (by omega)
  have v2 : IntKind.u64.wrap ((c : Int) * 65536) = ((c * 65536 : Nat) : Int) := wr64 (c * 65536) (by omega)
  have v3 : IntKind.u64.wrap ((d : Int) * 16777216) = ((d * 16777216 : Nat) : Int) := wr64 (d * 16777216) (by omega)
  rw [w1, w2, w3, w0, v1, v2, v3, u64_or_nat _ _ (by omega) (by omega), or_mulP a b 8 (by omega), u64_or_nat _ _ (by omega) (by omega), or_mulP (b * 256 + a) c 16 (by omega), u64_or_nat _ _ (by omega) (by omega), or_mulP _ d 24 (by omega)]

set_option maxRecDepth 100000 in
set_option maxHeartbeats 1000000 in
theorem pword_any (s : ByteArray) (i : Nat) (w : World) (h : i + 4 ≤ s.size) (hs : s.size ≤ 1000) :
    Calls Try.prog 54 #[.string s, .int .i64 i] w fun e w' => e = .returned (.int .u64 ((leb (((ls s).drop i).take 4) : Nat) : Int)) ∧ Below w.heap.size w w' := by
  have hE := ext4P s i h
  have HL : ((ls s).drop i).take 4 = [(ls s).getD i 0, (ls s).getD (i + 1) 0, (ls s).getD (i + 2) 0, (ls s).getD (i + 3) 0] := by
    have := congrArg ls hE
    rw [ls_extract, Nat.add_sub_cancel_left] at this
    exact this
  rw [HL]
  clear HL
  generalize (ls s).getD i 0 = x0 at *
  generalize (ls s).getD (i + 1) 0 = x1 at *
  generalize (ls s).getD (i + 2) 0 = x2 at *
  generalize (ls s).getD (i + 3) 0 = x3 at *
  obtain ⟨L, hL⟩ : ∃ L, leb [x0, x1, x2, x3] = L := ⟨_, rfl⟩
  rw [hL]
  have HLE := Lib.hid hL
  clear hL
  have i0 : (0 : Int) ≤ (i : Int) := by omega
  have i1 : (i : Int) + 4 ≤ s.size := by omega
  have i2 : (i : Int) ≤ (i : Int) + 4 := by omega
  have i3 : (s.size : Int) ≤ 1000 := by omega
  have e2 : ((i : Int) + 4).toNat = i + 4 := by omega
  go_enter Try.func54, Try.ntmps54
  go_upto_region 2 with fail
  clear hE
  have b0 := x0.toNat_lt
  have b1 := x1.toNat_lt
  have b2 := x2.toNat_lt
  have b3 := x3.toNat_lt
  refine wp_region_draws_tail 18 (by kernel_rfl) (by kernel_rfl) ?_
  simp only [List.take_succ_cons, List.take_zero, List.drop_succ_cons, List.drop_zero]
  repeat (go_big_quiet_step (fail))
  refine wpQuiet_nil ?_
  intro _ hw'
  obtain ⟨k, hw''⟩ := hw'
  subst hw''
  rw [le_or4u x0 x1 x2 x3, HLE.out]
  go_wp2_with fail
  go_ret
  exact ⟨rfl, below_drewN (Below.refl _ _) k⟩
/-- Four bytes from place i on, as a part of the whole. -/
theorem word_part (l : List UInt8) (i : Nat) : leb ((l.drop i).take 4) = leb l / 256 ^ i % 4294967296 := by
  rw [← leb_mod, ← leb_div]
theorem and26 (a : Nat) (h : a < 18446744073709551616) : bits .and .u64 (a : Int) 67108863 = ((a % 67108864 : Nat) : Int) := by
  have := u64_and_nat a 67108863 h (by decide)
  rw [show ((67108863 : Nat) : Int) = 67108863 from rfl] at this
  rw [this, show (67108863 : Nat) = 2 ^ 26 - 1 from rfl, Nat.and_two_pow_sub_one_eq_mod]
theorem split_parts (v : Nat) : (splitL v).a = v / 256 ^ 0 % 4294967296 % 67108864 ∧ (splitL v).b = v / 256 ^ 3 % 4294967296 / 4 % 67108864 ∧ (splitL v).c = v / 256 ^ 6 % 4294967296 / 16 % 67108864 ∧
    (splitL v).d = v / 256 ^ 9 % 4294967296 / 64 ∧ (v < 340282366920938463463374607431768211456 → (splitL v).e = v / 256 ^ 12 % 4294967296 / 256) := by
  simp only [splitL, show (256 : Nat) ^ 0 = 1 from rfl, show (256 : Nat) ^ 3 = 16777216 from rfl, show (256 : Nat) ^ 6 = 281474976710656 from rfl, show (256 : Nat) ^ 9 = 4722366482869645213696 from rfl, show (256 : Nat) ^ 12 = 79228162514264337593543950336 from rfl]
  omega
theorem pinfoL (f : Nat → Nat) : (Try.prog.info? 61).map (·.size) = some (rowF f).size := by rw [size_rowF]; kernel_rfl
theorem one_lvA (x : L5) : (lvA x).all (·.oneCell') = true := one_rowF (getL x)

set_option maxRecDepth 100000 in
set_option maxHeartbeats 1000000 in
theorem split_any (s : ByteArray) (w : World) (hs : s.size = 16) :
    Calls Try.prog 39 #[.string s] w fun e w' => e = .returned (.agg (lvA (splitL (leb (ls s))))) ∧ Below w.heap.size w w' := by
  have W0 := Lib.hid (fun w => pword_any s 0 w (by omega) (by omega))
  have W3 := Lib.hid (fun w => pword_any s 3 w (by omega) (by omega))
  have W6 := Lib.hid (fun w => pword_any s 6 w (by omega) (by omega))
  have W9 := Lib.hid (fun w => pword_any s 9 w (by omega) (by omega))
  have W12 := Lib.hid (fun w => pword_any s 12 w (by omega) (by omega))
  rw [word_part] at W0 W3 W6 W9 W12
  have hv := leb_lt (ls s)
  rw [length_ls, hs, show (256 : Nat) ^ 16 = 340282366920938463463374607431768211456 by decide] at hv
  obtain ⟨p0, p1, p2, p3, p4⟩ := split_parts (leb (ls s))
  have p4 := p4 hv
  have HR := Lib.hid (show lvA (splitL (leb (ls s))) = #[.int .u64 ((splitL (leb (ls s))).a : Int), .int .u64 ((splitL (leb (ls s))).b : Int), .int .u64 ((splitL (leb (ls s))).c : Int), .int .u64 ((splitL (leb (ls s))).d : Int), .int .u64 ((splitL (leb (ls s))).e : Int)] from rfl)
  rw [HR.out, p0, p1, p2, p3, p4]
  have b0 : leb (ls s) / 256 ^ 0 % 4294967296 < 4294967296 := Nat.mod_lt _ (by decide)
  have b3 : leb (ls s) / 256 ^ 3 % 4294967296 < 4294967296 := Nat.mod_lt _ (by decide)
  have b6 : leb (ls s) / 256 ^ 6 % 4294967296 < 4294967296 := Nat.mod_lt _ (by decide)
  have b9 : leb (ls s) / 256 ^ 9 % 4294967296 < 4294967296 := Nat.mod_lt _ (by decide)
  have b12 : leb (ls s) / 256 ^ 12 % 4294967296 < 4294967296 := Nat.mod_lt _ (by decide)
  clear HR p0 p1 p2 p3 p4 hv
  generalize leb (ls s) / 256 ^ 0 % 4294967296 = v0 at *
  generalize leb (ls s) / 256 ^ 3 % 4294967296 = v3 at *
  generalize leb (ls s) / 256 ^ 6 % 4294967296 = v6 at *
  generalize leb (ls s) / 256 ^ 9 % 4294967296 = v9 at *
  generalize leb (ls s) / 256 ^ 12 % 4294967296 = v12 at *
  have a0 := and26 v0 (by omega)
  have a3 := and26 (v3 / 4) (by omega)
  have a6 := and26 (v6 / 16) (by omega)
  have d3 : (v3 : Int) / 4 = ((v3 / 4 : Nat) : Int) := by omega
  have d6 : (v6 : Int) / 16 = ((v6 / 16 : Nat) : Int) := by omega
  have d9 : (v9 : Int) / 64 = ((v9 / 64 : Nat) : Int) := by omega
  have d12 : (v12 : Int) / 256 = ((v12 / 256 : Nat) : Int) := by omega
  have z : ((0 : Nat) : Int) = 0 := rfl
  have z3 : ((3 : Nat) : Int) = 3 := rfl
  have z6 : ((6 : Nat) : Int) = 6 := rfl
  have z9 : ((9 : Nat) : Int) = 9 := rfl
  have z12 : ((12 : Nat) : Int) = 12 := rfl
  rw [z] at W0
  rw [z3] at W3
  rw [z6] at W6
  rw [z9] at W9
  rw [z12] at W12
  have m0 : v0 % 67108864 < 67108864 := Nat.mod_lt _ (by decide)
  have m3 : v3 / 4 % 67108864 < 67108864 := Nat.mod_lt _ (by decide)
  have m6 : v6 / 16 % 67108864 < 67108864 := Nat.mod_lt _ (by decide)
  have n3 : v3 / 4 < 4294967296 := by omega
  have n6 : v6 / 16 < 4294967296 := by omega
  generalize v0 % 67108864 = r0 at *
  generalize v3 / 4 % 67108864 = r3 at *
  generalize v6 / 16 % 67108864 = r6 at *
  generalize v3 / 4 = q3 at *
  generalize v6 / 16 = q6 at *
  generalize v9 / 64 = r9 at *
  generalize v12 / 256 = r12 at *
  clear hs z z3 z6 z9 z12
  have R0 := (Rw.nil w).alloc #[.int .u64 0, .int .u64 0, .int .u64 0, .int .u64 0, .int .u64 0] 61
  simp only [List.nil_append] at R0
  have RR0 := Lib.hid R0
  have IN := Lib.hid (show (Try.prog.info? 61).map (·.size) = some (#[.int .u64 (r0 : Int), .int .u64 (r3 : Int), .int .u64 (r6 : Int), .int .u64 (r9 : Int), .int .u64 (r12 : Int)] : Array Value).size from by kernel_rfl)
  have LN := Lib.hid (show (#[.int .u64 0, .int .u64 0, .int .u64 0, .int .u64 0, .int .u64 0] : Array Value).size = (#[.int .u64 (r0 : Int), .int .u64 (r3 : Int), .int .u64 (r6 : Int), .int .u64 (r9 : Int), .int .u64 (r12 : Int)] : Array Value).size from rfl)
  have ON := Lib.hid (show (#[.int .u64 (r0 : Int), .int .u64 (r3 : Int), .int .u64 (r6 : Int), .int .u64 (r9 : Int), .int .u64 (r12 : Int)] : Array Value).all (·.oneCell') = true from by simp [Value.oneCell'])
  clear R0 p4
  go_enter Try.func39, Try.ntmps39
  go_wp2_with fail
  refine (W0.out _).mono ?_
  rintro e w1 ⟨rfl, hb⟩
  have R1 := Lib.hid (RR0.out.on hb)
  clear hb
  go_wp2_with fail
  refine (W3.out _).mono ?_
  rintro e w2 ⟨rfl, hb⟩
  have R2 := Lib.hid (R1.out.on hb)
  clear hb
  go_wp2_with fail
  refine (W6.out _).mono ?_
  rintro e w3 ⟨rfl, hb⟩
  have R3 := Lib.hid (R2.out.on hb)
  clear hb
  go_wp2_with fail
  refine (W9.out _).mono ?_
  rintro e w4 ⟨rfl, hb⟩
  have R4 := Lib.hid (R3.out.on hb)
  clear hb
  go_wp2_with fail
  refine (W12.out _).mono ?_
  rintro e w5 ⟨rfl, hb⟩
  have R5 := Lib.hid (R4.out.on hb)
  clear hb
  have RW := Lib.hid (R5.out.row 0)
  go_wp2_with (with_reducible refine wpList_store_row rfl 61 (.tmp 2) (.tmp 20) rfl w.heap.size #[.int .u64 (r0 : Int), .int .u64 (r3 : Int), .int .u64 (r6 : Int), .int .u64 (r9 : Int), .int .u64 (r12 : Int)] rfl rfl 61 #[.int .u64 0, .int .u64 0, .int .u64 0, .int .u64 0, .int .u64 0] RW.out IN.out LN.out ON.out ?_)
  have R6 := R5.out.store 0 #[.int .u64 (r0 : Int), .int .u64 (r3 : Int), .int .u64 (r6 : Int), .int .u64 (r9 : Int), .int .u64 (r12 : Int)]
  refine bodyPost_ret (results_cell_row rfl _ _ w.heap.size 61 #[.int .u64 (r0 : Int), .int .u64 (r3 : Int), .int .u64 (r6 : Int), .int .u64 (r9 : Int), .int .u64 (r12 : Int)] (0, 0) _ rfl (R6.row 0) Try.underlying61 rfl IN.out) rfl ⟨rfl, R6.bel⟩
end Go.Proofs.Ytkfacnegfkgcgaa

/-
  poly.clamp, poly.carry: the walks.
-/
namespace Go.Proofs.Ytkfacnegfkgcgaa
open Go.RowKit MS

theorem and_con (x m r : Nat) (hx : x < 18446744073709551616) (hm : m < 18446744073709551616) (h : x &&& m = r) : bits .and .u64 (x : Int) (m : Int) = ((r : Nat) : Int) := by
  rw [u64_and_nat x m hx hm, h]
theorem zeros5 : (#[.int .u64 0, .int .u64 0, .int .u64 0, .int .u64 0, .int .u64 0] : Array Value) = rowF (fun _ => 0) := rfl
theorem clamp_row (X : Nat → Nat) : rowF (upd (upd (upd (upd X 1 (c1 (X 1))) 2 (c2 (X 2))) 3 (c3 (X 3))) 4 (c4 (X 4))) = rowF (fun i => if i = 1 then c1 (X 1) else if i = 2 then c2 (X 2) else if i = 3 then c3 (X 3) else if i = 4 then c4 (X 4) else X i) := by
  refine rowF_congr fun i hi => ?_
  have : i = 0 ∨ i = 1 ∨ i = 2 ∨ i = 3 ∨ i = 4 := by omega
  rcases this with rfl | rfl | rfl | rfl | rfl <;> simp [upd]
theorem pclamp_row (v : Nat) : rowF (upd (upd (upd (upd (getL (splitL v)) 1 (c1 (getL (splitL v) 1))) 2 (c2 (getL (splitL v) 2))) 3 (c3 (getL (splitL v) 3))) 4 (c4 (getL (splitL v) 4))) = lvA (pclampL v) := by
  refine rowF_congr fun i hi => ?_
  have : i = 0 ∨ i = 1 ∨ i = 2 ∨ i = 3 ∨ i = 4 := by omega
  rcases this with rfl | rfl | rfl | rfl | rfl <;> simp [upd, getL, pclampL]

set_option maxRecDepth 100000 in
set_option maxHeartbeats 1000000 in
theorem polyclamp_any (s : ByteArray) (w : World) (hs : s.size = 16) :
    Calls Try.prog 38 #[.string s] w fun e w' => e = .returned (.agg (lvA (pclampL (leb (ls s))))) ∧ Below w.heap.size w w' := by
  have S := Lib.hid (fun w => split_any s w hs)
  have hv := leb_lt (ls s)
  rw [length_ls, hs, show (256 : Nat) ^ 16 = 340282366920938463463374607431768211456 by decide] at hv
  have hb := getL_26 (splitL_in hv).1
  have HRES := Lib.hid (pclamp_row (leb (ls s)))
  have HLA := Lib.hid (show lvA (splitL (leb (ls s))) = rowF (getL (splitL (leb (ls s)))) from rfl)
  rw [HLA.out] at S
  have b1 := hb 1
  have b2 := hb 2
  have b3 := hb 3
  have b4 := hb 4
  generalize getL (splitL (leb (ls s))) = X at *
  generalize lvA (pclampL (leb (ls s))) = res at HRES ⊢
  have a1 := and_con (X 1) 67108611 _ (by omega) (by decide) (and_c1 (X 1) b1)
  have a2 := and_con (X 2) 67092735 _ (by omega) (by decide) (and_c2 (X 2) b2)
  have a3 := and_con (X 3) 66076671 _ (by omega) (by decide) (and_c3 (X 3) b3)
  have a4 := and_con (X 4) 1048575 _ (by omega) (by decide) (and_c4 (X 4))
  rw [show ((67108611 : Nat) : Int) = 67108611 from rfl] at a1
  rw [show ((67092735 : Nat) : Int) = 67092735 from rfl] at a2
  rw [show ((66076671 : Nat) : Int) = 66076671 from rfl] at a3
  rw [show ((1048575 : Nat) : Int) = 1048575 from rfl] at a4
  have R0 := (Rw.nil w).alloc #[.int .u64 0, .int .u64 0, .int .u64 0, .int .u64 0, .int .u64 0] 61
  simp only [List.nil_append] at R0
  have RR0 := Lib.hid R0
  have IX := Lib.hid (pinfoL X)
  have OX := Lib.hid (one_rowF X)
  have LX := Lib.hid (show (#[.int .u64 0, .int .u64 0, .int .u64 0, .int .u64 0, .int .u64 0] : Array Value).size = (rowF X).size from rfl)
  clear R0 hb hv hs HLA
  go_enter Try.func38, Try.ntmps38
  go_wp2_with fail
  refine (S.out _).mono ?_
  rintro e w1 ⟨rfl, hb⟩
  have R1 := (RR0.out.on hb).alloc #[.int .u64 0, .int .u64 0, .int .u64 0, .int .u64 0, .int .u64 0] 61
  simp only [List.cons_append, List.nil_append] at R1
  have RR1 := Lib.hid R1
  have RW := Lib.hid (R1.row 1)
  have R2 := R1.store 1 (rowF X)
  simp only [List.set_cons_zero, List.set_cons_succ] at R2
  have RR2 := Lib.hid R2
  clear hb RR0 R1 R2
  go_upto_region 2 with (with_reducible refine wpList_store_row rfl 61 (.tmp 3) (.tmp 5) rfl w1.heap.size (rowF X) rfl rfl 61 #[.int .u64 0, .int .u64 0, .int .u64 0, .int .u64 0, .int .u64 0] RW.out IX.out LX.out OX.out ?_)
  generalize World.setRow _ _ (rowF X) = w2 at RR2 ⊢
  generalize w1.heap.size = g at RR2 ⊢
  generalize hga : w.heap.size = ga at *
  have HGA := Lib.hid hga
  clear RW RR1 IX OX LX hga
  have k1 := RR2.out.cell 1 1 (rowF_get _ 1 (by decide))
  have f1 := RR2.out.free 1 1
  have p1 := RR2.out.put 1 1 (.int .u64 ((c1 (X 1) : Nat) : Int))
  rw [rowF_set _ _ _ (by decide)] at p1
  have P1 := Lib.hid p1
  have k2 := p1.cell 1 2 (rowF_get _ 2 (by decide))
  have f2 := p1.free 1 2
  have p2 := p1.put 1 2 (.int .u64 ((c2 (X 2) : Nat) : Int))
  rw [rowF_set _ _ _ (by decide)] at p2
  have k3 := p2.cell 1 3 (rowF_get _ 3 (by decide))
  have f3 := p2.free 1 3
  have p3 := p2.put 1 3 (.int .u64 ((c3 (X 3) : Nat) : Int))
  rw [rowF_set _ _ _ (by decide)] at p3
  have k4 := p3.cell 1 4 (rowF_get _ 4 (by decide))
  have f4 := p3.free 1 4
  have p4 := p3.put 1 4 (.int .u64 ((c4 (X 4) : Nat) : Int))
  rw [rowF_set _ _ _ (by decide), HRES.out] at p4
  have P4 := Lib.hid p4
  clear p1 p2 p3 p4 P1
  rw [show upd X 1 (c1 (X 1)) 2 = X 2 from rfl] at k2
  rw [show upd (upd X 1 (c1 (X 1))) 2 (c2 (X 2)) 3 = X 3 from rfl] at k3
  rw [show upd (upd (upd X 1 (c1 (X 1))) 2 (c2 (X 2))) 3 (c3 (X 3)) 4 = X 4 from rfl] at k4
  generalize c1 (X 1) = y1 at *
  generalize c2 (X 2) = y2 at *
  generalize c3 (X 3) = y3 at *
  generalize c4 (X 4) = y4 at *
  generalize X 1 = x1 at *
  generalize X 2 = x2 at *
  generalize X 3 = x3 at *
  generalize X 4 = x4 at *
  go_upto_region 6 with fail
  generalize World.setCell _ ⟨g, 4, none⟩ _ = w9 at P4 ⊢
  have IR := Lib.hid (show (Try.prog.info? 61).map (·.size) = some res.size from by rw [← HRES.out]; exact pinfoL _)
  have OR := Lib.hid (show res.all (·.oneCell') = true from by rw [← HRES.out]; exact one_rowF _)
  have LR := Lib.hid (show (#[.int .u64 0, .int .u64 0, .int .u64 0, .int .u64 0, .int .u64 0] : Array Value).size = res.size from by rw [← HRES.out]; rfl)
  have RWA := Lib.hid (P4.out.row 1)
  have RWB := Lib.hid (P4.out.row 0)
  clear k1 k2 k3 k4 f1 f2 f3 f4 a1 a2 a3 a4
  go_wp2_with (first
    | (with_reducible refine wpList_load_row rfl 61 (.tmp 3) rfl g rfl 61 res (0, 0) _ RWA.out Try.underlying61 rfl IR.out ?_)
    | (with_reducible refine wpList_store_row rfl 61 (.tmp 2) (.tmp 22) rfl ga res rfl rfl 61 #[.int .u64 0, .int .u64 0, .int .u64 0, .int .u64 0, .int .u64 0] RWB.out IR.out LR.out OR.out ?_))
  have R6 := P4.out.store 0 res
  exact bodyPost_ret (results_cell_row rfl _ _ ga 61 res (0, 0) _ rfl (R6.row 0) Try.underlying61 rfl IR.out) rfl ⟨rfl, R6.bel⟩
end Go.Proofs.Ytkfacnegfkgcgaa

/-
  poly.carry: the walk.
-/
namespace Go.Proofs.Ytkfacnegfkgcgaa
open Go.RowKit MS

theorem rwL2 (w : World) (r0 r1 : Array Value) : Rw w [(w.heap.size, r0, 61), (w.heap.size + 1, r1, 61)] ((w.alloc (.cells r0 61 (0, 0))).alloc (.cells r1 61 (0, 0))) := by
  have h := ((Rw.nil w).alloc r0 61).alloc r1 61
  simpa using h
theorem upd_upd (F : Nat → Nat) (j a b : Nat) : upd (upd F j a) j b = upd F j b := by
  funext i
  unfold upd
  split <;> rfl

set_option maxRecDepth 100000 in
set_option maxHeartbeats 1000000 in
theorem carry_row (X : Nat → Nat) (hX : ∀ j, X j < 4611686018427387904) (w : World) :
    Calls Try.prog 55 #[.agg (rowF X)] w fun e w' => e = .returned (.agg (rowF (upd (cvG X) 0 (cvG X 0 + 5 * cvN X 5)))) ∧ Below w.heap.size w w' := by
  have R0 := Lib.hid (rwL2 w (rowF X) #[.int .u64 0, .int .u64 0, .int .u64 0, .int .u64 0, .int .u64 0])
  have BX := Lib.hid hX
  have BC := Lib.hid (cvN_le X hX)
  have HV := Lib.hid (show rowF X = rowF X from rfl)
  generalize hrx : rowF X = rx at R0 ⊢
  have HRX := Lib.hid hrx
  clear hX hrx HV
  obtain ⟨rl, hrl⟩ : ∃ rl, rowF (upd (cvG X) 0 (cvG X 0 + 5 * cvN X 5)) = rl := ⟨_, rfl⟩
  rw [hrl]
  have HRL := Lib.hid hrl
  have IR := Lib.hid (show (Try.prog.info? 61).map (·.size) = some rl.size from by rw [← hrl]; exact pinfoL _)
  have OR := Lib.hid (show rl.all (·.oneCell') = true from by rw [← hrl]; exact one_rowF _)
  have LR := Lib.hid (show (#[.int .u64 0, .int .u64 0, .int .u64 0, .int .u64 0, .int .u64 0] : Array Value).size = rl.size from by rw [← hrl]; rfl)
  clear hrl
  go_enter Try.func55, Try.ntmps55
  go_upto_region 2 with fail
  generalize (w.alloc (.cells rx 61 (0, 0))).alloc (.cells #[.int .u64 0, .int .u64 0, .int .u64 0, .int .u64 0, .int .u64 0] 61 (0, 0)) = W at R0 ⊢
  have R1 := Lib.hid (show Rw w [(w.heap.size, rowF (prog X (cvG X) 0), 61), (w.heap.size + 1, #[.int .u64 0, .int .u64 0, .int .u64 0, .int .u64 0, .int .u64 0], 61)] W from by rw [prog_zero, HRX.out]; exact R0.out)
  clear R0
  generalize hA : w.heap.size = ga at *
  generalize hB : ga + 1 = gb at *
  have HA := Lib.hid hA
  clear hA hB
  go_wp2_with fail
  go_loopw [3, 5] (fun o i wr => ∃ j : Nat, j ≤ 5 ∧ i = .int .i64 j ∧ o = .int .u64 (cvN X j : Nat) ∧ Rw w [(ga, rowF (prog X (cvG X) j), 61), (gb, #[.int .u64 0, .int .u64 0, .int .u64 0, .int .u64 0, .int .u64 0], 61)] wr) (fun _ i _ => 5 - (intOf i).toNat)
  case atStart => exact ⟨0, by omega, rfl, rfl, R1.out⟩
  case round =>
    obtain ⟨j, hj, rfl, rfl, hr⟩ := hrel
    have R4 := Lib.hid hr
    clear hr R1
    by_cases hlt : j < 5
    · have j1 : (j : Int) < 5 := by omega
      have j0 : (0 : Int) ≤ j := by omega
      have cj := R4.out.cell 0 j (rowF_get _ j hlt)
      have fj := R4.out.free 0 j
      rw [prog_at] at cj
      have bj := BX.out j
      have lo := BC.out j
      have put := R4.out.put 0 j (.int .u64 ((X j + cvN X j : Nat) : Int))
      rw [rowF_set _ _ _ hlt] at put
      have ck := put.cell 0 j (rowF_get _ j hlt)
      have fk := put.free 0 j
      rw [show upd (prog X (cvG X) j) j (X j + cvN X j) j = X j + cvN X j from if_pos rfl] at ck
      have put2 := put.put 0 j (.int .u64 ((cvG X j : Nat) : Int))
      simp only [List.set_cons_zero] at put2
      rw [rowF_set _ _ _ hlt, upd_upd, prog_set] at put2
      have PUT := Lib.hid put2
      have hS : ∃ S, X j + cvN X j = S := ⟨_, rfl⟩
      obtain ⟨S, hS⟩ := hS
      have qs : (X j : Int) + (cvN X j : Int) = (S : Int) := by omega
      have hs : (S : Int) / 67108864 = ((cvN X (j + 1) : Nat) : Int) := by rw [show cvN X (j + 1) = (X j + cvN X j) / 67108864 from rfl]; omega
      have ha : bits .and .u64 (S : Int) 67108863 = ((cvG X j : Nat) : Int) := by
        rw [← hS, and26 (X j + cvN X j) (by omega)]
        rfl
      have bS : (S : Int) < 4611686155866341376 := by omega
      rw [hS] at ck fk PUT put
      have HLT := Lib.hid hlt
      generalize X j = xj at cj bj qs
      generalize cvN X j = oj at lo qs ⊢
      generalize cvG X j = gj at PUT ha
      generalize ho : cvN X (j + 1) = oj1 at hs
      have HO := Lib.hid ho
      have o0 : (0 : Int) ≤ (oj : Int) := by omega
      have x0 : (0 : Int) ≤ (xj : Int) := by omega
      clear hlt hj ho put put2 hS bj lo
      go_upto_region 6 with fail
      generalize wr.setCell ⟨ga, j, none⟩ (.int .u64 (S : Int)) = w6 at ck fk PUT ⊢
      clear cj fj qs
      go_wp2_with fail
      go_roundw
      case rel => exact ⟨j + 1, HLT.out, by go_num, by rw [HO.out], PUT.out⟩
      case measure => simp [intOf]; omega
    · have j1 : ¬ ((j : Int) < 5) := by omega
      have hj5 : j = 5 := by omega
      have r5 := R4.out
      rw [hj5, prog_end] at r5
      have c0 := r5.cell 0 0 (rowF_get _ 0 (by decide))
      have f0 := r5.free 0 0
      have put := r5.put 0 0 (.int .u64 ((cvG X 0 + 5 * cvN X 5 : Nat) : Int))
      rw [rowF_set _ _ _ (by decide)] at put
      simp only [List.set_cons_zero] at put
      have l5 := BC.out 5
      have g0 : cvG X 0 < 67108864 := Nat.mod_lt _ (by decide)
      rw [HRL.out] at put
      rw [hj5]
      have hq : ((cvG X 0 : Nat) : Int) + 5 * ((cvN X 5 : Nat) : Int) = ((cvG X 0 + 5 * cvN X 5 : Nat) : Int) := by omega
      have HQ := Lib.hid hq
      rw [← HQ.out] at put
      have PUT := Lib.hid put
      generalize cvG X 0 = y0 at *
      generalize cvN X 5 = o5 at *
      clear put r5 hj5 hlt hj R4 hq
      go_upto_region 10 with fail
      generalize World.setCell _ _ _ = w9 at PUT ⊢
      have RWA := Lib.hid (PUT.out.row 0)
      have RWB := Lib.hid (PUT.out.row 1)
      clear c0 f0
      go_wp2_with (first
        | (with_reducible refine wpList_load_row rfl 61 (.tmp 1) rfl ga rfl 61 rl (0, 0) _ RWA.out Try.underlying61 rfl IR.out ?_)
        | (with_reducible refine wpList_store_row rfl 61 (.tmp 2) (.tmp 30) rfl gb rl rfl rfl 61 #[.int .u64 0, .int .u64 0, .int .u64 0, .int .u64 0, .int .u64 0] RWB.out IR.out LR.out OR.out ?_))
      have R6 := PUT.out.store 1 rl
      exact bodyPost_ret (results_cell_row rfl _ _ gb 61 rl (0, 0) _ rfl (R6.row 1) Try.underlying61 rfl IR.out) rfl ⟨rfl, HA.out ▸ R6.bel⟩
theorem carry_any (x : L5) (hx : ∀ j, getL x j < 4611686018427387904) (w : World) :
    Calls Try.prog 55 #[.agg (lvA x)] w fun e w' => e = .returned (.agg (lvA (carL x))) ∧ Below w.heap.size w w' := by
  have h := carry_row (getL x) hx w
  rw [carL_row] at h
  exact h
end Go.Proofs.Ytkfacnegfkgcgaa

/-
  poly.mul: the walk.
-/
namespace Go.Proofs.Ytkfacnegfkgcgaa
open Go.RowKit MS

theorem run_index_rowL (T : TypeId) (hu : Try.prog.underlying T = some (.array 5 59)) (f : Nat → Nat) (j : Nat) (hj : j < 5) (w : World) : (Instr.index T (.agg (rowF f)) (.int .i64 j)).run Try.prog w = .ok (.int .u64 (f j : Nat)) w := by
  have hn : (0 : Int) ≤ j ∧ (j : Int) < 5 := by omega
  have hi : (Try.prog.info? 59).map (·.size) = some 1 := by kernel_rfl
  cases hq : Try.prog.info? 59 with
  | none => simp [hq] at hi
  | some i =>
    have hs : i.size = 1 := by simpa [hq] using hi
    simp [Instr.index, run_underlying hu, asIntOf, go_sem, sizeOf, typeInfo, hq, hs, hn]
    rw [if_pos hj, rowF_get f j hj]
    rfl
theorem rwL3 (w : World) (r0 r1 r2 r3 : Array Value) : Rw w [(w.heap.size, r0, 61), (w.heap.size + 1, r1, 61), (w.heap.size + 1 + 1, r2, 61), (w.heap.size + 1 + 1 + 1, r3, 61)] ((((w.alloc (.cells r0 61 (0, 0))).alloc (.cells r1 61 (0, 0))).alloc (.cells r2 61 (0, 0))).alloc (.cells r3 61 (0, 0))) := by
  have h := ((((Rw.nil w).alloc r0 61).alloc r1 61).alloc r2 61).alloc r3 61
  simpa using h
theorem outP_zero (X Y : Nat → Nat) : rowF (outP X Y 0) = #[.int .u64 0, .int .u64 0, .int .u64 0, .int .u64 0, .int .u64 0] := rfl

set_option maxRecDepth 1000000 in
set_option maxHeartbeats 3000000 in
theorem polymul_any (h r : L5) (hh : h.in28) (hr : r.in26) (w : World) :
    Calls Try.prog 41 #[.agg (lvA h), .agg (lvA r)] w fun e w' => e = .returned (.agg (lvA (mulL h r))) ∧ Below w.heap.size w w' := by
  have R0 := Lib.hid (rwL3 w (lvA h) (lvA r) #[.int .u64 0, .int .u64 0, .int .u64 0, .int .u64 0, .int .u64 0] #[.int .u64 0, .int .u64 0, .int .u64 0, .int .u64 0, .int .u64 0])
  have BX := Lib.hid (getL_28 hh)
  have BY := Lib.hid (getL_26 hr)
  have HEND := Lib.hid (outP_end h r)
  have HMR := Lib.hid (mulL_row h r)
  have HC := Lib.hid (fun w => carry_any (mulD h r) (fun j => by
    obtain ⟨m0, m1, m2, m3, m4⟩ := mulD_lt hh hr
    unfold getL
    split <;> omega) w)
  obtain ⟨c0, c1, c2, c3, c4⟩ := carL_lt (mulD h r) (mulD_lt hh hr).1 (mulD_lt hh hr).2.1 (mulD_lt hh hr).2.2.1 (mulD_lt hh hr).2.2.2.1 (mulD_lt hh hr).2.2.2.2
  have HLR := Lib.hid (show lvA (mulL h r) = rowF (getL (mulL h r)) from rfl)
  have HLX := Lib.hid (show lvA h = rowF (getL h) from rfl)
  have HLY := Lib.hid (show lvA r = rowF (getL r) from rfl)
  have HCA := Lib.hid (show getL (carL (mulD h r)) 0 = (carL (mulD h r)).a ∧ getL (carL (mulD h r)) 1 = (carL (mulD h r)).b from ⟨rfl, rfl⟩)
  rw [HLR.out, HLX.out, HLY.out]
  rw [HLX.out, HLY.out] at R0
  obtain ⟨X, hX⟩ : ∃ X, getL h = X := ⟨_, rfl⟩
  obtain ⟨Y, hY⟩ : ∃ Y, getL r = Y := ⟨_, rfl⟩
  obtain ⟨D, hD⟩ : ∃ D, mulD h r = D := ⟨_, rfl⟩
  obtain ⟨rl, hrl⟩ : ∃ rl, rowF (getL (mulL h r)) = rl := ⟨_, rfl⟩
  rw [hX] at R0 BX HEND ⊢
  rw [hY] at R0 BY HEND ⊢
  rw [hrl] at HMR ⊢
  rw [hD] at HEND HMR HC HCA c0 c1
  rw [hD] at c2 c3 c4
  have IR := Lib.hid (show (Try.prog.info? 61).map (·.size) = some rl.size from by rw [← hrl]; exact pinfoL _)
  have OR := Lib.hid (show rl.all (·.oneCell') = true from by rw [← hrl]; exact one_rowF _)
  have LR := Lib.hid (show (#[.int .u64 0, .int .u64 0, .int .u64 0, .int .u64 0, .int .u64 0] : Array Value).size = rl.size from by rw [← hrl]; rfl)
  have IX := Lib.hid (pinfoL X)
  have IY := Lib.hid (pinfoL Y)
  clear HLR HLX HLY hX hY hD hrl hh hr
  go_enter Try.func41, Try.ntmps41
  go_upto_region 2 with fail
  generalize (((w.alloc (.cells (rowF X) 61 (0, 0))).alloc (.cells (rowF Y) 61 (0, 0))).alloc (.cells #[.int .u64 0, .int .u64 0, .int .u64 0, .int .u64 0, .int .u64 0] 61 (0, 0))).alloc (.cells #[.int .u64 0, .int .u64 0, .int .u64 0, .int .u64 0, .int .u64 0] 61 (0, 0)) = w3 at R0 ⊢
  generalize hA : w.heap.size = ga at *
  generalize hB : ga + 1 = gb at *
  generalize hG : gb + 1 = gc at *
  generalize hE : gc + 1 = gd at *
  have HA := Lib.hid hA
  clear hA hB hG hE
  have R3 := Lib.hid (show Rw w [(ga, rowF X, 61), (gb, rowF Y, 61), (gc, rowF (fun _ => 0), 61), (gd, rowF (outP X Y 0), 61)] w3 from R0.out)
  have RA := Lib.hid (R3.out.row 0)
  clear R0
  go_wp2_with (with_reducible refine wpList_load_row rfl 61 (.tmp 2) rfl ga rfl 61 (rowF X) (0, 0) _ RA.out Try.underlying61 rfl IX.out ?_)
  clear RA
  go_loopw [12] (fun c wr => ∃ i : Nat, i ≤ 5 ∧ c = .int .i64 i ∧ Rw w [(ga, rowF X, 61), (gb, rowF Y, 61), (gc, rowF (fun _ => 0), 61), (gd, rowF (outP X Y i), 61)] wr) (fun c _ => 5 - (intOf c).toNat)
  case atStart => exact ⟨0, by omega, rfl, R3.out⟩
  case round =>
    obtain ⟨i, hi, rfl, hr⟩ := hrel
    have R4 := Lib.hid hr
    have RB := Lib.hid (hr.row 1)
    clear hr R3
    by_cases hlt : i < 5
    · have i1 : (i : Int) < 5 := by omega
      have i0 : (0 : Int) ≤ i := by omega
      have hix := fun w => run_index_rowL 61 Try.underlying61 X i hlt w
      have HI := Lib.hid hlt
      clear hlt hi c0 c1 c2 c3 c4
      go_wp2_with (with_reducible refine wpList_load_row rfl 61 (.tmp 3) rfl gb rfl 61 (rowF Y) (0, 0) _ RB.out Try.underlying61 rfl IY.out ?_)
      clear hix RB
      obtain ⟨wo, rfl⟩ : ∃ wo : World, wo = wr := ⟨_, rfl⟩
      go_loopw [17] (fun c wr => ∃ j : Nat, j ≤ 5 ∧ c = .int .i64 j ∧ Rw w [(ga, rowF X, 61), (gb, rowF Y, 61), (gc, rowF (fun _ => 0), 61), (gd, rowF (innP X Y (outP X Y i) i j), 61)] wr) (fun c _ => 5 - (intOf c).toNat)
      case atStart => exact ⟨0, by omega, rfl, R4.out⟩
      case round =>
        obtain ⟨j, hj, rfl, hr⟩ := hrel
        have R5 := Lib.hid hr
        clear hr R4
        by_cases hlt : j < 5
        · have j1 : (j : Int) < 5 := by omega
          have j0 : (0 : Int) ≤ j := by omega
          have hiy := fun w => run_index_rowL 61 Try.underlying61 Y j hlt w
          have hk5 := ixP_lt HI.out hlt
          have cl := R5.out.cell 3 (ixP i j) (rowF_get _ _ hk5)
          have fl := R5.out.free 3 (ixP i j)
          have hg := innP_lt BX.out BY.out HI.out (Nat.le_of_lt hlt) (ixP i j)
          have ht := tmP_le BX.out BY.out i j
          have HJ := Lib.hid hlt
          have hput := R5.out.put 3 (ixP i j) (.int .u64 ((innP X Y (outP X Y i) i j (ixP i j) + tmP X Y i j : Nat) : Int))
          rw [rowF_set _ _ _ hk5, show upd (innP X Y (outP X Y i) i j) (ixP i j) (innP X Y (outP X Y i) i j (ixP i j) + tmP X Y i j) = innP X Y (outP X Y i) i (j + 1) from rfl] at hput
          simp only [List.set_cons_zero, List.set_cons_succ] at hput
          have bx := BX.out i
          have bby := BY.out j
          obtain ⟨k, hk⟩ : ∃ k, ixP i j = k := ⟨_, rfl⟩
          rw [hk] at cl fl hg hput
          obtain ⟨f, hf⟩ : ∃ f, innP X Y (outP X Y i) i j k = f := ⟨_, rfl⟩
          rw [hf] at cl hg hput
          obtain ⟨y', hy'⟩ : ∃ y', (if i + j ≥ 5 then Y j * 5 else Y j) = y' := ⟨_, rfl⟩
          have hp : tmP X Y i j = X i * y' := by rw [tmP, hy']
          obtain ⟨P, hP⟩ : ∃ P, X i * y' = P := ⟨_, rfl⟩
          rw [hp, hP] at hput ht
          have qp : (X i : Int) * (y' : Int) = (P : Int) := by rw [← hP]; exact (Int.natCast_mul _ _).symm
          obtain ⟨S, hS⟩ : ∃ S, f + P = S := ⟨_, rfl⟩
          rw [hS] at hput
          have qs : (f : Int) + (P : Int) = (S : Int) := by omega
          have PUT := Lib.hid hput
          have ht' : P ≤ 90071992547409920 := ht
          have bS : (S : Int) ≤ 2341871806232657920 := by omega
          have bP : (P : Int) ≤ 90071992547409920 := by omega
          have P0 : (0 : Int) ≤ (P : Int) := by omega
          have f0 : (0 : Int) ≤ (f : Int) := by omega
          have by' : (y' : Int) < 335544320 := by rw [← hy']; split <;> omega
          have by0 : (0 : Int) ≤ (y' : Int) := by omega
          have bxi : (X i : Int) < 268435456 := by omega
          have bx0 : (0 : Int) ≤ (X i : Int) := by omega
          have kn : (k : Int) < 5 := by rw [← hk]; omega
          have k0 : (0 : Int) ≤ k := by omega
          clear hP hS hp ht ht' hf hg hput hk5
          by_cases h5 : i + j ≥ 5
          case' pos =>
            have q5 : (i : Int) + (j : Int) ≥ 5 := by omega
            have qk : (i : Int) + (j : Int) - 5 = (k : Int) := by rw [← hk, ixP, if_pos h5]; omega
            have qy : (Y j : Int) * 5 = (y' : Int) := by rw [← hy', if_pos h5]; omega
            have qb : (Y j : Int) < 67108864 := by omega
            have qb0 : (0 : Int) ≤ (Y j : Int) := by omega
          case' neg =>
            have q5 : ¬ ((i : Int) + (j : Int) ≥ 5) := by omega
            have qk : (i : Int) + (j : Int) = (k : Int) := by rw [← hk, ixP, if_neg h5]; omega
            have qy : Y j = y' := by rw [← hy', if_neg h5]
            have qb : True := trivial
            have qb0 : True := trivial
            rw [qy] at hiy
          all_goals
            have hk9 := Lib.hid hk
            generalize X i = xi at *
            clear hk hy' h5 hj hlt bx bby R5
            have HID := Lib.hid (And.intro bS (And.intro bP (And.intro P0 (And.intro f0 (And.intro qs (And.intro qp (And.intro by' (And.intro by0 (And.intro bxi bx0)))))))))
            clear bS bP P0 f0 qs qp by' by0 bxi bx0
            go_upto_region 12 with fail
            obtain ⟨bS, bP, P0, f0, qs, qp, by', by0, bxi, bx0⟩ := HID.out
            clear hiy qk qy q5 HID
            go_wp2_with fail
            go_roundw
            case rel => exact ⟨j + 1, by have := HJ.out; omega, by go_num, PUT.out⟩
            case measure => simp [intOf]; have := HJ.out; omega
        · have j1 : ¬ ((j : Int) < 5) := by omega
          have hj5 : j = 5 := by omega
          have r6 := R5.out
          rw [hj5] at r6
          have R6 := Lib.hid (show Rw w [(ga, rowF X, 61), (gb, rowF Y, 61), (gc, rowF (fun _ => 0), 61), (gd, rowF (outP X Y (i + 1)), 61)] wr from r6)
          clear r6 hj5 hlt hj R5
          go_wp2_with fail
          go_roundw
          case rel => exact ⟨i + 1, by have := HI.out; omega, by go_num, R6.out⟩
          case measure => simp [intOf]; have := HI.out; omega
    · have i1 : ¬ ((i : Int) < 5) := by omega
      have hi5 : i = 5 := by omega
      have r5 := R4.out
      rw [hi5, HEND.out] at r5
      have R5 := Lib.hid r5
      have RD := Lib.hid (r5.row 3)
      have ID := Lib.hid (pinfoL (getL D))
      have HCD := Lib.hid (show ∀ w, Calls Try.prog 55 #[.agg (rowF (getL D))] w fun e w' => e = .returned (.agg (rowF (getL (carL D)))) ∧ Below w.heap.size w w' from HC.out)
      obtain ⟨h0, h1⟩ := HCA.out
      have IC := Lib.hid (pinfoL (getL (carL D)))
      have OC := Lib.hid (one_rowF (getL (carL D)))
      have LC := Lib.hid (show (rowF (getL D)).size = (rowF (getL (carL D))).size from rfl)
      rw [← h0, ← h1] at HMR
      rw [← h0] at c0
      rw [← h1] at c1
      generalize getL (carL D) = C at *
      generalize rowF (getL D) = rd at *
      clear hi5 hlt hi RB BX BY R4 r5 HC HEND HCA h0 h1 c2 c3 c4
      have HMR2 := HMR.out
      have hs : ∃ s, C 1 + C 0 / 67108864 = s := ⟨_, rfl⟩
      obtain ⟨s, hs⟩ := hs
      obtain ⟨q, hq⟩ : ∃ q, C 0 / 67108864 = q := ⟨_, rfl⟩
      obtain ⟨m, hm⟩ : ∃ m, C 0 % 67108864 = m := ⟨_, rfl⟩
      have qq : (C 0 : Int) / 67108864 = (q : Int) := by omega
      have qs : (C 1 : Int) + (q : Int) = (s : Int) := by omega
      have ha := and26 (C 0) (by omega)
      rw [hs, hm] at HMR2
      rw [hm] at ha
      have HM3 := Lib.hid HMR2
      have bs : (s : Int) < 137505000000 := by omega
      have bq : (q : Int) ≤ 2048 := by omega
      have bq0 : (0 : Int) ≤ (q : Int) := by omega
      have e1 := Lib.hid (show upd C 1 s 0 = C 0 from rfl)
      clear HMR HMR2 hs hq hm
      go_wp2_with (with_reducible refine wpList_load_row rfl 61 (.tmp 5) rfl gd rfl 61 rd (0, 0) _ RD.out Try.underlying61 rfl ID.out ?_)
      refine (HCD.out _).mono ?_
      rintro e w5 ⟨rfl, hb5⟩
      have R6 := Lib.hid (R5.out.on hb5)
      have RE := Lib.hid (R6.out.row 3)
      have R7 := R6.out.store 3 (rowF C)
      simp only [List.set_cons_zero, List.set_cons_succ] at R7
      have R8 := Lib.hid R7
      clear hb5 R7 RD R5 R6
      go_upto_region 16 with (with_reducible refine wpList_store_row rfl 61 (.tmp 5) (.tmp 41) rfl gd (rowF C) rfl rfl 61 rd RE.out IC.out LC.out OC.out ?_)
      generalize World.setRow _ _ (rowF C) = w7 at R8 ⊢
      clear RE IC LC OC ID HCD
      have k1 := R8.out.cell 3 1 (rowF_get _ 1 (by decide))
      have k0 := R8.out.cell 3 0 (rowF_get _ 0 (by decide))
      have f1 := R8.out.free 3 1
      have p1 := R8.out.put 3 1 (.int .u64 (s : Int))
      rw [rowF_set _ _ _ (by decide)] at p1
      simp only [List.set_cons_zero, List.set_cons_succ] at p1
      have k2 := p1.cell 3 0 (rowF_get _ 0 (by decide))
      rw [e1.out] at k2
      have f2 := p1.free 3 0
      have p2 := p1.put 3 0 (.int .u64 (m : Int))
      rw [rowF_set _ _ _ (by decide), HM3.out] at p2
      simp only [List.set_cons_zero, List.set_cons_succ] at p2
      have P2 := Lib.hid p2
      clear p1 p2 R8 HM3 e1
      generalize C 1 = x1 at *
      generalize C 0 = x0 at *
      go_upto_region 18 with fail
      generalize World.setCell _ ⟨gd, 0, none⟩ _ = w9 at P2 ⊢
      have RWA := Lib.hid (P2.out.row 3)
      have RWB := Lib.hid (P2.out.row 2)
      clear k0 k1 k2 f1 f2 ha qq qs c0 c1 bs bq bq0
      have LR2 := Lib.hid (show (rowF (fun _ => 0)).size = rl.size from LR.out)
      go_wp2_with (first
        | (with_reducible refine wpList_load_row rfl 61 (.tmp 5) rfl gd rfl 61 rl (0, 0) _ RWA.out Try.underlying61 rfl IR.out ?_)
        | (with_reducible refine wpList_store_row rfl 61 (.tmp 4) (.tmp 53) rfl gc rl rfl rfl 61 (rowF (fun _ => 0)) RWB.out IR.out LR2.out OR.out ?_))
      have R9 := P2.out.store 2 rl
      exact bodyPost_ret (results_cell_row rfl _ _ gc 61 rl (0, 0) _ rfl (R9.row 2) Try.underlying61 rfl IR.out) rfl ⟨rfl, HA.out ▸ R9.bel⟩
end Go.Proofs.Ytkfacnegfkgcgaa

/-
  poly.least: the walk.
-/
namespace Go.Proofs.Ytkfacnegfkgcgaa
open Go.RowKit MS

theorem in27_62 {x : L5} (h : x.in27) (j : Nat) : getL x j < 4611686018427387904 := by
  obtain ⟨h0, h1, h2, h3, h4⟩ := h
  unfold getL
  split <;> omega
theorem in27_car {x : L5} (h : x.in27) (j : Nat) : getL (carL x) j < 4611686018427387904 := by
  obtain ⟨h0, h1, h2, h3, h4⟩ := h
  obtain ⟨c0, c1, c2, c3, c4⟩ := carL_lt x (by omega) (by omega) (by omega) (by omega) (by omega)
  unfold getL
  split <;> omega
theorem plus_lt {Z : Nat → Nat} (h : ∀ j, Z j < 67108864) (j : Nat) : upd Z 0 (Z 0 + 5) j < 4611686018427387904 := by
  have h0 := h 0
  have h1 := h j
  unfold upd
  split <;> omega

set_option maxRecDepth 1000000 in
set_option maxHeartbeats 2000000 in
theorem polyleast_any (x : L5) (hx : x.in27) (w : World) :
    Calls Try.prog 43 #[.agg (lvA x)] w fun e w' => e = .returned (.agg (lvA (leastL x))) ∧ Below w.heap.size w w' := by
  have R0 := Lib.hid (rwL2 w (lvA x) #[.int .u64 0, .int .u64 0, .int .u64 0, .int .u64 0, .int .u64 0])
  have C1 := Lib.hid (fun w => carry_any x (in27_62 hx) w)
  have C2 := Lib.hid (fun w => carry_any (carL x) (in27_car hx) w)
  obtain ⟨pr, po⟩ := plus5_row (twice5 x)
  have BZ := getL_26 (twice5_in hx)
  have HLS := Lib.hid (show leastL x = if 0 < (plus5 (twice5 x)).1 then (plus5 (twice5 x)).2 else twice5 x from rfl)
  have HZ0 := Lib.hid (show (twice5 x).a = getL (twice5 x) 0 from rfl)
  rw [HZ0.out] at pr po
  have HL2 := Lib.hid (show lvA (carL (carL x)) = rowF (getL (twice5 x)) from rfl)
  rw [HL2.out] at C2
  have HRN := Lib.hid (show 0 < (plus5 (twice5 x)).1 → lvA (leastL x) = rowF (getL (plus5 (twice5 x)).2) from fun h => by rw [HLS.out, if_pos h]; rfl)
  have HRZ := Lib.hid (show ¬ 0 < (plus5 (twice5 x)).1 → lvA (leastL x) = rowF (getL (twice5 x)) from fun h => by rw [HLS.out, if_neg h]; rfl)
  rw [← pr, ← po] at HRN
  rw [← po] at HRZ
  obtain ⟨Z, hZ⟩ : ∃ Z, getL (twice5 x) = Z := ⟨_, rfl⟩
  rw [hZ] at HRN HRZ C2 BZ
  obtain ⟨res, hres⟩ : ∃ r, lvA (leastL x) = r := ⟨_, rfl⟩
  rw [hres] at HRN HRZ ⊢
  obtain ⟨rx, hrx⟩ : ∃ r, lvA x = r := ⟨_, rfl⟩
  have SX := Lib.hid (show rx.size = 5 from by rw [← hrx]; rfl)
  have IX := Lib.hid (show (Try.prog.info? 61).map (·.size) = some rx.size from by rw [← hrx]; exact pinfoL _)
  rw [hrx] at R0 C1 ⊢
  obtain ⟨ry, hry⟩ : ∃ r, lvA (carL x) = r := ⟨_, rfl⟩
  rw [hry] at C1 C2
  have BL := Lib.hid (plus_lt BZ)
  have BZ0 := Lib.hid (BZ 0)
  obtain ⟨L, hL⟩ : ∃ L, upd Z 0 (Z 0 + 5) = L := ⟨_, rfl⟩
  rw [hL] at HRN HRZ BL
  have HLL := Lib.hid hL
  have BC := Lib.hid (cvN_le L BL.out)
  have IZ := Lib.hid (pinfoL Z)
  have OZ := Lib.hid (one_rowF Z)
  have LZ := Lib.hid (show rx.size = (rowF Z).size from SX.out)
  have LZ0 := Lib.hid (show (#[.int .u64 0, .int .u64 0, .int .u64 0, .int .u64 0, .int .u64 0] : Array Value).size = (rowF Z).size from rfl)
  clear hx pr po BZ HLS HZ0 HL2 hZ hres hrx hry hL
  go_enter Try.func43, Try.ntmps43
  go_upto_region 1 with fail
  generalize (w.alloc (.cells rx 61 (0, 0))).alloc (.cells #[.int .u64 0, .int .u64 0, .int .u64 0, .int .u64 0, .int .u64 0] 61 (0, 0)) = W at R0 ⊢
  generalize hA : w.heap.size = ga at *
  generalize hB : ga + 1 = gb at *
  have HA := Lib.hid hA
  clear hA hB
  have RW0 := Lib.hid (R0.out.row 0)
  go_wp2_with (with_reducible refine wpList_load_row rfl 61 (.tmp 1) rfl ga rfl 61 rx (0, 0) _ RW0.out Try.underlying61 rfl IX.out ?_)
  refine (C1.out _).mono ?_
  rintro e w1 ⟨rfl, hb1⟩
  have R1 := Lib.hid (R0.out.on hb1)
  clear hb1 R0 RW0 C1
  go_wp2_with fail
  refine (C2.out _).mono ?_
  rintro e w2 ⟨rfl, hb2⟩
  have R2 := Lib.hid (R1.out.on hb2)
  have RW2 := Lib.hid (R2.out.row 0)
  have r3 := R2.out.store 0 (rowF Z)
  simp only [List.set_cons_zero] at r3
  have R3 := Lib.hid r3
  clear hb2 R1 C2 r3
  go_upto_region 2 with (with_reducible refine wpList_store_row rfl 61 (.tmp 1) (.tmp 8) rfl ga (rowF Z) rfl rfl 61 rx RW2.out IZ.out LZ.out OZ.out ?_)
  generalize World.setRow _ _ (rowF Z) = w3 at R3 ⊢
  clear RW2 R2 LZ
  have RW3 := Lib.hid (R3.out.row 0)
  have r4 := R3.out.alloc #[.int .u64 0, .int .u64 0, .int .u64 0, .int .u64 0, .int .u64 0] 61
  simp only [List.cons_append, List.nil_append] at r4
  have RW4 := Lib.hid (r4.row 2)
  have r5 := r4.store 2 (rowF Z)
  simp only [List.set_cons_zero, List.set_cons_succ] at r5
  have R5 := Lib.hid r5
  clear r4 r5
  go_upto_region 3 with (first
    | (with_reducible refine wpList_load_row rfl 61 (.tmp 1) rfl ga rfl 61 (rowF Z) (0, 0) _ RW3.out Try.underlying61 rfl IZ.out ?_)
    | (with_reducible refine wpList_store_row rfl 61 (.tmp 3) (.tmp 9) rfl w3.heap.size (rowF Z) rfl rfl 61 #[.int .u64 0, .int .u64 0, .int .u64 0, .int .u64 0, .int .u64 0] RW4.out IZ.out LZ0.out OZ.out ?_))
  generalize World.setRow _ _ (rowF Z) = w5 at R5 ⊢
  generalize w3.heap.size = gc at R5 ⊢
  clear RW3 RW4 R3 LZ0
  have k0 := R5.out.cell 2 0 (rowF_get _ 0 (by decide))
  have f0 := R5.out.free 2 0
  have p0 := R5.out.put 2 0 (.int .u64 ((Z 0 + 5 : Nat) : Int))
  rw [rowF_set _ _ _ (by decide), HLL.out, ← prog_zero L (cvG L)] at p0
  simp only [List.set_cons_zero, List.set_cons_succ] at p0
  have z0 : (Z 0 : Int) < 67108864 := by have := BZ0.out; omega
  have q0 : ((Z 0 + 5 : Nat) : Int) = (Z 0 : Int) + 5 := by omega
  rw [q0] at p0
  have P0 := Lib.hid p0
  obtain ⟨z, hz⟩ : ∃ z, Z 0 = z := ⟨_, rfl⟩
  rw [hz] at k0 P0 z0
  clear p0 q0 hz R5
  go_upto_region 4 with fail
  generalize World.setCell _ _ _ = w6 at P0 ⊢
  clear k0 f0 z0
  go_wp2_with fail
  go_loopw [4, 14] (fun o i wr => ∃ j : Nat, j ≤ 5 ∧ i = .int .i64 j ∧ o = .int .u64 (cvN L j : Nat) ∧ Rw w [(ga, rowF Z, 61), (gb, #[.int .u64 0, .int .u64 0, .int .u64 0, .int .u64 0, .int .u64 0], 61), (gc, rowF (prog L (cvG L) j), 61)] wr) (fun _ i _ => 5 - (intOf i).toNat)
  case atStart => exact ⟨0, by omega, rfl, rfl, P0.out⟩
  case round =>
    obtain ⟨j, hj, rfl, rfl, hr⟩ := hrel
    have R4 := Lib.hid hr
    clear hr P0
    by_cases hlt : j < 5
    · have j1 : (j : Int) < 5 := by omega
      have j0 : (0 : Int) ≤ j := by omega
      have cj := R4.out.cell 2 j (rowF_get _ j hlt)
      have fj := R4.out.free 2 j
      rw [prog_at] at cj
      have bj := BL.out j
      have lo := BC.out j
      have put := R4.out.put 2 j (.int .u64 ((L j + cvN L j : Nat) : Int))
      rw [rowF_set _ _ _ hlt] at put
      simp only [List.set_cons_zero, List.set_cons_succ] at put
      have ck := put.cell 2 j (rowF_get _ j hlt)
      have fk := put.free 2 j
      rw [show upd (prog L (cvG L) j) j (L j + cvN L j) j = L j + cvN L j from if_pos rfl] at ck
      have put2 := put.put 2 j (.int .u64 ((cvG L j : Nat) : Int))
      simp only [List.set_cons_zero, List.set_cons_succ] at put2
      rw [rowF_set _ _ _ hlt, upd_upd, prog_set] at put2
      have PUT := Lib.hid put2
      obtain ⟨S, hS⟩ : ∃ S, L j + cvN L j = S := ⟨_, rfl⟩
      have qs : (L j : Int) + (cvN L j : Int) = (S : Int) := by omega
      have hs : (S : Int) / 67108864 = ((cvN L (j + 1) : Nat) : Int) := by rw [show cvN L (j + 1) = (L j + cvN L j) / 67108864 from rfl]; omega
      have ha : bits .and .u64 (S : Int) 67108863 = ((cvG L j : Nat) : Int) := by
        rw [← hS, and26 (L j + cvN L j) (by omega)]
        rfl
      have bS : (S : Int) < 4611686155866341376 := by omega
      rw [hS] at ck fk PUT put
      have HLT := Lib.hid hlt
      generalize L j = xj at cj bj qs
      generalize cvN L j = oj at lo qs ⊢
      generalize cvG L j = gj at PUT ha
      generalize ho : cvN L (j + 1) = oj1 at hs
      have HO := Lib.hid ho
      have o0 : (0 : Int) ≤ (oj : Int) := by omega
      have x0 : (0 : Int) ≤ (xj : Int) := by omega
      clear hlt hj ho put put2 hS bj lo
      go_upto_region 9 with fail
      generalize wr.setCell ⟨gc, j, none⟩ (.int .u64 (S : Int)) = w6 at ck fk PUT ⊢
      clear cj fj qs
      go_wp2_with fail
      go_roundw
      case rel => exact ⟨j + 1, HLT.out, by go_num, by rw [HO.out], PUT.out⟩
      case measure => simp [intOf]; omega
    · have j1 : ¬ ((j : Int) < 5) := by omega
      have hj5 : j = 5 := by omega
      have r5 := R4.out
      rw [hj5, prog_end] at r5
      rw [hj5]
      have R5 := Lib.hid r5
      have IN := Lib.hid (pinfoL (cvG L))
      have ON := Lib.hid (one_rowF (cvG L))
      have LN := Lib.hid (show (#[.int .u64 0, .int .u64 0, .int .u64 0, .int .u64 0, .int .u64 0] : Array Value).size = (rowF (cvG L)).size from rfl)
      have LZ := Lib.hid (show (#[.int .u64 0, .int .u64 0, .int .u64 0, .int .u64 0, .int .u64 0] : Array Value).size = (rowF Z).size from rfl)
      have RWA := Lib.hid (r5.row 2)
      have RWB := Lib.hid (r5.row 0)
      have RWC := Lib.hid (r5.row 1)
      generalize rowF (cvG L) = rn at *
      generalize rowF Z = rz at *
      generalize cvN L 5 = o at *
      clear r5 hj5 hlt hj R4 BC BL
      by_cases h0 : 0 < o
      · have t1 : (o : Int) > 0 := by omega
        have hr := HRN.out h0
        clear h0 HRN HRZ
        subst hr
        go_wp2_with (first
          | (with_reducible refine wpList_load_row rfl 61 (.tmp 3) rfl gc rfl 61 res (0, 0) _ RWA.out Try.underlying61 rfl IN.out ?_)
          | (with_reducible refine wpList_store_row rfl 61 (.tmp 2) (.tmp 35) rfl gb res rfl rfl 61 #[.int .u64 0, .int .u64 0, .int .u64 0, .int .u64 0, .int .u64 0] RWC.out IN.out LN.out ON.out ?_))
        have R6 := R5.out.store 1 res
        exact bodyPost_ret (results_cell_row rfl _ _ gb 61 res (0, 0) _ rfl (R6.row 1) Try.underlying61 rfl IN.out) rfl ⟨rfl, HA.out ▸ R6.bel⟩
      · have t1 : ¬ (o : Int) > 0 := by omega
        have hr := HRZ.out h0
        clear h0 HRN HRZ
        subst hr
        go_wp2_with (first
          | (with_reducible refine wpList_load_row rfl 61 (.tmp 1) rfl ga rfl 61 res (0, 0) _ RWB.out Try.underlying61 rfl IZ.out ?_)
          | (with_reducible refine wpList_store_row rfl 61 (.tmp 2) (.tmp 36) rfl gb res rfl rfl 61 #[.int .u64 0, .int .u64 0, .int .u64 0, .int .u64 0, .int .u64 0] RWC.out IZ.out LZ.out OZ.out ?_))
        have R6 := R5.out.store 1 res
        exact bodyPost_ret (results_cell_row rfl _ _ gb 61 res (0, 0) _ rfl (R6.row 1) Try.underlying61 rfl IZ.out) rfl ⟨rfl, HA.out ▸ R6.bel⟩
end Go.Proofs.Ytkfacnegfkgcgaa

/-
  poly.padded: the walk.
-/
namespace Go.Proofs.Ytkfacnegfkgcgaa
open Go.RowKit MS

set_option maxRecDepth 100000 in
theorem pad_full (s : ByteArray) (w : World) (hs : s.size = 16) :
    Calls Try.prog 40 #[.string s] w fun e w' => e = .returned (.string s) ∧ Below w.heap.size w w' := by
  have t1 : ((s.size : Int) == 16) = true := by simp; omega
  clear hs
  go_enter Try.func40, Try.ntmps40
  go_wp2_with fail
  go_ret
  exact ⟨rfl, Below.refl _ _⟩
def padP (s : ByteArray) : ByteArray := bs (ls s ++ 1 :: List.replicate (15 - s.size) 0)
theorem size_padP (s : ByteArray) (h : s.size ≤ 15) : (padP s).size = 16 := by
  rw [padP, size_bs, List.length_append, List.length_cons, List.length_replicate, length_ls]; omega
theorem leb_padP (s : ByteArray) : leb (ls (padP s)) = leb (ls s) + 256 ^ s.size := by
  rw [padP, ls_bs, leb_app, leb, leb_zeros, length_ls]
  show leb (ls s) + 256 ^ s.size * 1 = _
  rw [Nat.mul_one]

set_option maxRecDepth 100000 in
set_option maxHeartbeats 1000000 in
theorem pad_part (s : ByteArray) (w : World) (hs : s.size ≤ 15) :
    Calls Try.prog 40 #[.string s] w fun e w' => e = .returned (.string (padP s)) ∧ Below w.heap.size w w' := by
  have t1 : ((s.size : Int) == 16) = false := by simp; omega
  have s1 : (s.size : Int) < 16 := by omega
  have s0 : (0 : Int) ≤ (s.size : Int) := by omega
  have HS := Lib.hid hs
  have HL := Lib.hid (length_ls s)
  have B0 := Lib.hid (Bt.made (T := 75) (Below.refl w.heap.size w) (List.replicate 16 0))
  have HR := Lib.hid (show padP s = bs (ls s ++ 1 :: List.replicate (15 - s.size) 0) from rfl)
  generalize padP s = R at HR ⊢
  clear hs
  go_enter Try.func40, Try.ntmps40
  go_upto_region 4 with fail
  rw [zeros16]
  generalize w.alloc (.cells (vls (List.replicate 16 0)).toArray 75 (0, 0)) = w1 at B0 ⊢
  generalize hA : w.heap.size = ga at B0 ⊢
  have HA := Lib.hid hA
  clear hA
  go_wp2_with (with_reducible refine wpList_copy_bt rfl (.tmp 8) (.tmp 9) rfl 75 ga 16 16 s rfl rfl w B0.out ?hle ?_)
  case hle => have := HS.out; omega
  intro w2 b2
  have cu := b2.cell s.size (by have := HS.out; have := HL.out; simp; omega)
  have fu := b2.free s.size
  have b3 := b2.put s.size 1
  have e1 : (ls s ++ List.replicate (16 - (ls s).length) 0).set s.size 1 = ls s ++ 1 :: List.replicate (15 - s.size) 0 := by
    have hl := HL.out
    have h15 := HS.out
    rw [List.set_append_right _ _ (by omega), hl, Nat.sub_self, show 16 - s.size = (15 - s.size) + 1 by omega, List.replicate_succ, List.set_cons_zero]
  rw [e1] at b3
  have B3 := Lib.hid (show Bt 75 ga w (ls s ++ 1 :: List.replicate (15 - s.size) 0) (w2.setCell ⟨ga, s.size, none⟩ (.int .u8 1)) from b3)
  have hcv := b3.conv 16 16 (by have := HS.out; have := HL.out; simp; omega)
  have hcv2 : (convert 37 9 (.slice (some ⟨ga, 0, none⟩) 16 16)).run Try.prog (w2.setCell ⟨ga, s.size, none⟩ (.int .u8 1)) = .ok (.string R) (w2.setCell ⟨ga, s.size, none⟩ (.int .u8 1)) := by rw [HR.out]; exact hcv
  clear b2 b3 e1 hcv B0 HR
  go_wp2_with fail
  go_ret
  exact ⟨rfl, HA.out ▸ B3.out.bel⟩
end Go.Proofs.Ytkfacnegfkgcgaa

/-
  poly.finish: the walk.
-/
namespace Go.Proofs.Ytkfacnegfkgcgaa
open Go.RowKit MS

def renP : Go.Shelf.Ren := ⟨fun n => if n = 25 then 56 else n, fun n => if n = 22 then 59 else n, fun n => n⟩
theorem laysP : Lays7.n25 Try.prog renP := { mixed := by kernel_rfl, f25 := by kernel_rfl, t22 := by kernel_rfl, a22 := fun _ => by kernel_rfl, z22 := fun _ => by kernel_rfl, v22 := fun _ => by kernel_rfl, i22 := by kernel_rfl }
theorem add64P (x y c l h : Nat) (hc : c ≤ 1) (hl : l = (x + y + c) % 18446744073709551616) (hh : h = (x + y + c) / 18446744073709551616) (w : World) : (callFunc 56 #[.int .u64 x, .int .u64 y, .int .u64 c]).run Try.prog w = .ok (.value (.tuple #[.int .u64 ((l : Nat) : Int), .int .u64 ((h : Nat) : Int)])) w := by
  subst hl hh
  exact Any7.bits_Add64 laysP x y c hc w

/-- The words of a number of five limbs, and of the half. -/
theorem low_word {x : L5} (h : x.in26) : (x.a ||| x.b * 67108864) ||| x.c % 4096 * 4503599627370496 = x.v % 18446744073709551616 ∧ x.a ||| x.b * 67108864 < 4503599627370496 := by
  obtain ⟨h0, h1, h2, h3, h4⟩ := h
  have e1 := or_mulP x.a x.b 26 (by omega)
  rw [show (2 : Nat) ^ 26 = 67108864 by decide] at e1
  have e2 := or_mulP (x.b * 67108864 + x.a) (x.c % 4096) 52 (by omega)
  rw [show (2 : Nat) ^ 52 = 4503599627370496 by decide] at e2
  rw [e1, e2]
  unfold L5.v
  omega
theorem high_word {x : L5} (h : x.in26) : (x.c / 4096 ||| x.d * 16384) ||| x.e % 16777216 * 1099511627776 = x.v / 18446744073709551616 % 18446744073709551616 ∧ x.c / 4096 ||| x.d * 16384 < 1099511627776 := by
  obtain ⟨h0, h1, h2, h3, h4⟩ := h
  have e1 := or_mulP (x.c / 4096) x.d 14 (by omega)
  rw [show (2 : Nat) ^ 14 = 16384 by decide] at e1
  have e2 := or_mulP (x.d * 16384 + x.c / 4096) (x.e % 16777216) 40 (by omega)
  rw [show (2 : Nat) ^ 40 = 1099511627776 by decide] at e2
  rw [e1, e2]
  unfold L5.v
  omega
theorem half_word (a b : Nat) (ha : a < 4294967296) : a ||| b * 4294967296 = a + 4294967296 * b := by
  have e1 := or_mulP a b 32 (by omega)
  rw [show (2 : Nat) ^ 32 = 4294967296 by decide] at e1
  rw [e1]; omega
theorem or64 (a b c : Nat) (ha : a < 18446744073709551616) (hb : b < 18446744073709551616) (h : a ||| b = c) : bits .or .u64 (a : Int) (b : Int) = ((c : Nat) : Int) := by
  rw [u64_or_nat a b ha hb, h]
theorem shl64 (a m c : Nat) (h : a * m % 18446744073709551616 = c) : IntKind.u64.wrap ((a : Int) * (m : Int)) = ((c : Nat) : Int) := by
  rw [IntKind.wrap_u64]
  subst h
  rw [Int.natCast_emod, Int.natCast_mul]
  rfl
theorem L_low (Y : Nat) : Y % 4294967296 + 4294967296 * (Y / 4294967296 % 4294967296) = Y % 18446744073709551616 := by omega
theorem L_high (Y : Nat) (h : Y < 340282366920938463463374607431768211456) : Y / 18446744073709551616 % 4294967296 + 4294967296 * (Y / 79228162514264337593543950336 % 4294967296) = Y / 18446744073709551616 := by omega
theorem L_sum (X Y : Nat) : (X + Y) % 18446744073709551616 = (X % 18446744073709551616 + Y % 18446744073709551616 + 0) % 18446744073709551616 := by omega
theorem L_sum2 (X Y : Nat) : (X + Y) / 18446744073709551616 % 18446744073709551616 = (X / 18446744073709551616 % 18446744073709551616 + Y / 18446744073709551616 + (X % 18446744073709551616 + Y % 18446744073709551616 + 0) / 18446744073709551616) % 18446744073709551616 := by omega
theorem L_q1 (b : Nat) (h : b < 67108864) : b * 67108864 % 18446744073709551616 = b * 67108864 := by omega
theorem L_q2 (b : Nat) (_h : b < 67108864) : b * 4503599627370496 % 18446744073709551616 = b % 4096 * 4503599627370496 := by omega
theorem L_q3 (b : Nat) (h : b < 4294967296) : b * 4294967296 % 18446744073709551616 = b * 4294967296 := by omega
theorem L_q4 (b : Nat) (h : b < 67108864) : b * 16384 % 18446744073709551616 = b * 16384 := by omega
theorem L_q5 (b : Nat) (_h : b < 67108864) : b * 1099511627776 % 18446744073709551616 = b % 16777216 * 1099511627776 := by omega
theorem L_26 (b : Nat) (h : b < 67108864) : b < 18446744073709551616 := by omega
theorem L_32 (b : Nat) (h : b < 4294967296) : b < 18446744073709551616 := by omega
theorem L_b1 (b : Nat) (h : b < 67108864) : b * 67108864 < 18446744073709551616 := by omega
theorem L_b2 (b : Nat) : b % 4096 * 4503599627370496 < 18446744073709551616 := by omega
theorem L_b3 (b : Nat) (h : b < 4294967296) : b * 4294967296 < 18446744073709551616 := by omega
theorem L_b4 (b : Nat) (h : b < 67108864) : b * 16384 < 18446744073709551616 := by omega
theorem L_b5 (b : Nat) : b % 16777216 * 1099511627776 < 18446744073709551616 := by omega
theorem L_b7 (b : Nat) (h : b < 67108864) : b / 4096 < 18446744073709551616 := by omega
theorem L_cr {a b c : Nat} (ha : a < 18446744073709551616) (hb : b < 18446744073709551616) (h : (a + b + 0) / 18446744073709551616 = c) : c ≤ 1 := by omega
/-- The bytes so far: j of the low word, j of the high one. -/
def finL (T j : Nat) : List UInt8 := (List.range 16).map fun i => if i < j ∨ 8 ≤ i ∧ i < 8 + j then UInt8.ofNat (T / 256 ^ i % 256) else 0
theorem length_finL (T j : Nat) : (finL T j).length = 16 := by simp [finL]
theorem finL_get (T j i : Nat) (h : i < 16) : (finL T j)[i]? = some (if i < j ∨ 8 ≤ i ∧ i < 8 + j then UInt8.ofNat (T / 256 ^ i % 256) else 0) := by simp [finL, h]
theorem finL_zero (T : Nat) : finL T 0 = List.replicate 16 0 := by
  apply List.ext_getElem?
  intro i
  by_cases h : i < 16
  · rw [finL_get _ _ _ h, if_neg (by omega), List.getElem?_replicate, if_pos h]
  · rw [List.getElem?_eq_none (by rw [length_finL]; omega), List.getElem?_eq_none (by simp; omega)]
theorem finL_step (T j : Nat) (h : j < 8) : ((finL T j).set j (UInt8.ofNat (T / 256 ^ j % 256))).set (8 + j) (UInt8.ofNat (T / 256 ^ (8 + j) % 256)) = finL T (j + 1) := by
  apply List.ext_getElem?
  intro i
  rw [List.getElem?_set, List.length_set, length_finL, List.getElem?_set, length_finL]
  by_cases hi : i < 16
  · rw [finL_get _ _ _ hi, finL_get _ _ _ hi]
    by_cases e1 : 8 + j = i
    · subst e1
      rw [if_pos rfl, if_pos hi, if_pos (by omega)]
    · rw [if_neg e1]
      by_cases e2 : j = i
      · subst e2
        rw [if_pos rfl, if_pos hi, if_pos (by omega)]
      · rw [if_neg e2]
        congr 1
        by_cases h3 : i < j ∨ 8 ≤ i ∧ i < 8 + j
        · rw [if_pos h3, if_pos (by omega)]
        · rw [if_neg h3, if_neg (by omega)]
  · rw [if_neg (by omega), if_neg (by omega), List.getElem?_eq_none (by rw [length_finL]; omega), List.getElem?_eq_none (by rw [length_finL]; omega)]
theorem finL_end (T : Nat) : finL T 8 = nbs 16 T := by
  apply List.ext_getElem?
  intro i
  by_cases h : i < 16
  · rw [finL_get _ _ _ h, nbs_get _ _ _ h, if_pos (by omega)]
  · rw [List.getElem?_eq_none (by rw [length_finL]; omega), List.getElem?_eq_none (by rw [length_nbs]; omega)]
theorem dig_low (T j : Nat) (h : j < 8) : T % 18446744073709551616 / 256 ^ j % 256 = T / 256 ^ j % 256 := dig_mod 256 8 T j h
theorem dig_high (T j : Nat) (h : j < 8) : T / 18446744073709551616 % 18446744073709551616 / 256 ^ j % 256 = T / 256 ^ (8 + j) % 256 := by
  rw [show T / 18446744073709551616 % 18446744073709551616 / 256 ^ j % 256 = T / 18446744073709551616 / 256 ^ j % 256 from dig_mod 256 8 _ j h, Nat.pow_add, Nat.div_div_eq_div_mul]

set_option maxRecDepth 1000000 in
set_option maxHeartbeats 4000000 in
theorem finish_poly (x : L5) (half : ByteArray) (hx : x.in26) (hh : half.size = 16) (w : World) :
    Calls Try.prog 42 #[.agg (lvA x), .string half] w fun e w' => e = .returned (.string (bs (nbs 16 (x.v + leb (ls half))))) ∧ Below w.heap.size w w' := by
  have W0 := Lib.hid (fun w => pword_any half 0 w (by omega) (by omega))
  have W4 := Lib.hid (fun w => pword_any half 4 w (by omega) (by omega))
  have W8 := Lib.hid (fun w => pword_any half 8 w (by omega) (by omega))
  have W12 := Lib.hid (fun w => pword_any half 12 w (by omega) (by omega))
  rw [word_part] at W0 W4 W8 W12
  have hv := leb_lt (ls half)
  rw [length_ls, hh, show (256 : Nat) ^ 16 = 340282366920938463463374607431768211456 by decide] at hv
  rw [show (256 : Nat) ^ 0 = 1 by decide, Nat.div_one, show ((0 : Nat) : Int) = 0 from rfl] at W0
  rw [show (256 : Nat) ^ 4 = 4294967296 by decide, show ((4 : Nat) : Int) = 4 from rfl] at W4
  rw [show (256 : Nat) ^ 8 = 18446744073709551616 by decide, show ((8 : Nat) : Int) = 8 from rfl] at W8
  rw [show (256 : Nat) ^ 12 = 79228162514264337593543950336 by decide, show ((12 : Nat) : Int) = 12 from rfl] at W12
  obtain ⟨lw, lb⟩ := low_word hx
  obtain ⟨hw, hb⟩ := high_word hx
  obtain ⟨h0, h1, h2, h3, h4⟩ := hx
  have HRES := Lib.hid (show lvA x = #[.int .u64 (x.a : Int), .int .u64 (x.b : Int), .int .u64 (x.c : Int), .int .u64 (x.d : Int), .int .u64 (x.e : Int)] from rfl)
  rw [HRES.out]
  generalize leb (ls half) = Y at *
  generalize x.v = X at *
  have lY : (Y % 4294967296) ||| (Y / 4294967296 % 4294967296) * 4294967296 = Y % 18446744073709551616 := by rw [half_word _ _ (Nat.mod_lt _ (by decide))]; exact L_low Y
  have hY : (Y / 18446744073709551616 % 4294967296) ||| (Y / 79228162514264337593543950336 % 4294967296) * 4294967296 = Y / 18446744073709551616 := by rw [half_word _ _ (Nat.mod_lt _ (by decide))]; exact L_high Y hv
  have y0 : Y % 4294967296 < 4294967296 := Nat.mod_lt _ (by decide)
  have y4 : Y / 4294967296 % 4294967296 < 4294967296 := Nat.mod_lt _ (by decide)
  have y8 : Y / 18446744073709551616 % 4294967296 < 4294967296 := Nat.mod_lt _ (by decide)
  have y12 : Y / 79228162514264337593543950336 % 4294967296 < 4294967296 := Nat.mod_lt _ (by decide)
  have z1 : Y % 18446744073709551616 < 18446744073709551616 := Nat.mod_lt _ (by decide)
  have z0 : X % 18446744073709551616 < 18446744073709551616 := Nat.mod_lt _ (by decide)
  have hlo := L_sum X Y
  have hhi := L_sum2 X Y
  obtain ⟨v0, ev0⟩ : ∃ n, Y % 4294967296 = n := ⟨_, rfl⟩
  obtain ⟨v4, ev4⟩ : ∃ n, Y / 4294967296 % 4294967296 = n := ⟨_, rfl⟩
  obtain ⟨v8, ev8⟩ : ∃ n, Y / 18446744073709551616 % 4294967296 = n := ⟨_, rfl⟩
  obtain ⟨v12, ev12⟩ : ∃ n, Y / 79228162514264337593543950336 % 4294967296 = n := ⟨_, rfl⟩
  obtain ⟨l0, el0⟩ : ∃ n, X % 18446744073709551616 = n := ⟨_, rfl⟩
  obtain ⟨l1, el1⟩ : ∃ n, Y % 18446744073709551616 = n := ⟨_, rfl⟩
  obtain ⟨l2, el2⟩ : ∃ n, X / 18446744073709551616 % 18446744073709551616 = n := ⟨_, rfl⟩
  obtain ⟨l3, el3⟩ : ∃ n, Y / 18446744073709551616 = n := ⟨_, rfl⟩
  obtain ⟨T, hT⟩ : ∃ T, X + Y = T := ⟨_, rfl⟩
  rw [ev0, ev4, el1] at lY
  rw [ev8, ev12, el3] at hY
  rw [ev0] at W0 y0
  rw [ev4] at W4 y4
  rw [ev8] at W8 y8
  rw [ev12] at W12 y12
  rw [el0] at lw
  rw [el2] at hw
  rw [hT, el0, el1] at hlo
  rw [hT, el2, el3, el0, el1] at hhi
  rw [el1] at z1
  rw [el0] at z0
  rw [hT]
  clear ev0 ev4 ev8 ev12 el0 el1 el2 el3 hT hv
  have q1 := shl64 x.b 67108864 _ (L_q1 _ h1)
  have q2 := shl64 x.c 4503599627370496 _ (L_q2 _ h2)
  have q3 := shl64 v4 4294967296 _ (L_q3 _ y4)
  have q4 := shl64 x.d 16384 _ (L_q4 _ h3)
  have q5 := shl64 x.e 1099511627776 _ (L_q5 _ h4)
  have q6 := shl64 v12 4294967296 _ (L_q3 _ y12)
  have o1 := or64 x.a (x.b * 67108864) _ (L_26 _ h0) (L_b1 _ h1) rfl
  have o2 := or64 (x.a ||| x.b * 67108864) (x.c % 4096 * 4503599627370496) _ (Nat.lt_trans lb (by decide)) (L_b2 _) lw
  have o3 := or64 v0 (v4 * 4294967296) _ (L_32 _ y0) (L_b3 _ y4) lY
  have o4 := or64 (x.c / 4096) (x.d * 16384) _ (L_b7 _ h2) (L_b4 _ h3) rfl
  have o5 := or64 (x.c / 4096 ||| x.d * 16384) (x.e % 16777216 * 1099511627776) _ (Nat.lt_trans hb (by decide)) (L_b5 _) hw
  have o6 := or64 v8 (v12 * 4294967296) _ (L_32 _ y8) (L_b3 _ y12) hY
  have s1 : (x.c : Int) / 4096 = ((x.c / 4096 : Nat) : Int) := rfl
  rw [show ((67108864 : Nat) : Int) = 67108864 from rfl] at q1
  rw [show ((4503599627370496 : Nat) : Int) = 4503599627370496 from rfl] at q2
  rw [show ((4294967296 : Nat) : Int) = 4294967296 from rfl] at q3 q6
  rw [show ((16384 : Nat) : Int) = 16384 from rfl] at q4
  rw [show ((1099511627776 : Nat) : Int) = 1099511627776 from rfl] at q5
  clear lw lb hw hb lY hY hh
  obtain ⟨n1, en1⟩ : ∃ n, x.b * 67108864 = n := ⟨_, rfl⟩
  obtain ⟨n2, en2⟩ : ∃ n, x.c % 4096 * 4503599627370496 = n := ⟨_, rfl⟩
  obtain ⟨n3, en3⟩ : ∃ n, v4 * 4294967296 = n := ⟨_, rfl⟩
  obtain ⟨n4, en4⟩ : ∃ n, x.d * 16384 = n := ⟨_, rfl⟩
  obtain ⟨n5, en5⟩ : ∃ n, x.e % 16777216 * 1099511627776 = n := ⟨_, rfl⟩
  obtain ⟨n6, en6⟩ : ∃ n, v12 * 4294967296 = n := ⟨_, rfl⟩
  obtain ⟨n7, en7⟩ : ∃ n, x.c / 4096 = n := ⟨_, rfl⟩
  rw [en1] at q1 o1 o2
  rw [en2] at q2 o2
  rw [en3] at q3 o3
  rw [en4] at q4 o4 o5
  rw [en5] at q5 o5
  rw [en6] at q6 o6
  rw [en7] at o4 o5 s1
  obtain ⟨n8, en8⟩ : ∃ n, x.a ||| n1 = n := ⟨_, rfl⟩
  obtain ⟨n9, en9⟩ : ∃ n, n7 ||| n4 = n := ⟨_, rfl⟩
  rw [en8] at o1 o2
  rw [en9] at o4 o5
  obtain ⟨cr, hcr⟩ : ∃ cr, (l0 + l1 + 0) / 18446744073709551616 = cr := ⟨_, rfl⟩
  have hc1 : cr ≤ 1 := L_cr z0 z1 hcr
  rw [hcr] at hhi
  obtain ⟨c2, hc2⟩ : ∃ c2, (l2 + l3 + cr) / 18446744073709551616 = c2 := ⟨_, rfl⟩
  have hdl := dig_low T
  have hdh := dig_high T
  obtain ⟨lo, elo⟩ : ∃ n, T % 18446744073709551616 = n := ⟨_, rfl⟩
  obtain ⟨hi, ehi⟩ : ∃ n, T / 18446744073709551616 % 18446744073709551616 = n := ⟨_, rfl⟩
  have HT0 := Lib.hid (show lo < 18446744073709551616 by rw [← elo]; exact Nat.mod_lt _ (by decide))
  have HT1 := Lib.hid (show hi < 18446744073709551616 by rw [← ehi]; exact Nat.mod_lt _ (by decide))
  rw [elo] at hdl hlo
  rw [ehi] at hdh hhi
  have a1 := add64P l0 l1 0 lo cr (by decide) hlo hcr.symm
  have a2 := add64P l2 l3 cr hi c2 hc1 hhi hc2.symm
  rw [show ((0 : Nat) : Int) = 0 from rfl] at a1
  have HDL := Lib.hid hdl
  have HDH := Lib.hid hdh
  rw [← finL_end]
  obtain ⟨R, hR⟩ : ∃ R, bs (finL T 8) = R := ⟨_, rfl⟩
  rw [hR]
  have HR8 := Lib.hid hR
  have HF0 := Lib.hid (finL_zero T)
  have HFS := Lib.hid (finL_step T)
  clear hcr hlo hhi HRES hR hdl hdh en1 en2 en3 en4 en5 en6 en7 en8 en9 hc2 elo ehi hc1 z0 z1 y0 y4 y8 y12
  generalize x.a = xa at *
  generalize x.b = xb at *
  generalize x.c = xc at *
  generalize x.d = xd at *
  generalize x.e = xe at *
  have R0 := (Rw.nil w).alloc #[.int .u64 (xa : Int), .int .u64 (xb : Int), .int .u64 (xc : Int), .int .u64 (xd : Int), .int .u64 (xe : Int)] 61
  simp only [List.nil_append] at R0
  have RR0 := Lib.hid R0
  clear R0 h0 h1 h2 h3 h4
  go_enter Try.func42, Try.ntmps42
  go_upto_region 1 with fail
  generalize w.alloc (.cells #[.int .u64 (xa : Int), .int .u64 (xb : Int), .int .u64 (xc : Int), .int .u64 (xd : Int), .int .u64 (xe : Int)] 61 (0, 0)) = W at RR0 ⊢
  generalize hA : w.heap.size = ga at *
  have HA := Lib.hid hA
  clear hA
  have k0 : ∀ p : BW W, p.1.cell? ⟨ga, 0, none⟩ = some (.int .u64 (xa : Int)) := fun p => (RR0.out.on p.2).cell 0 0 rfl
  have k1 : ∀ p : BW W, p.1.cell? ⟨ga, 1, none⟩ = some (.int .u64 (xb : Int)) := fun p => (RR0.out.on p.2).cell 0 1 rfl
  have k2 : ∀ p : BW W, p.1.cell? ⟨ga, 2, none⟩ = some (.int .u64 (xc : Int)) := fun p => (RR0.out.on p.2).cell 0 2 rfl
  refine wp_region_below (by kernel_rfl) (by kernel_rfl) ?_
  repeat (go_big_quiet_step (fail))
  go_big_quiet_step (exact calls_below (W0.out _))
  repeat (go_big_quiet_step (fail))
  go_big_quiet_step (exact calls_below (W4.out _))
  repeat (go_big_quiet_step (fail))
  refine wpQuiet_nil ?_
  rintro _ ⟨p, rfl⟩
  have R1 := Lib.hid (RR0.out.on p.2)
  generalize p.1 = w1 at R1 ⊢
  clear k0 k1 k2 RR0 W0 W4 o1 o2 o3 q1 q2 q3 a1
  go_upto_region 2 with fail
  have k2 : ∀ p : BW w1, p.1.cell? ⟨ga, 2, none⟩ = some (.int .u64 (xc : Int)) := fun p => (R1.out.on p.2).cell 0 2 rfl
  have k3 : ∀ p : BW w1, p.1.cell? ⟨ga, 3, none⟩ = some (.int .u64 (xd : Int)) := fun p => (R1.out.on p.2).cell 0 3 rfl
  have k4 : ∀ p : BW w1, p.1.cell? ⟨ga, 4, none⟩ = some (.int .u64 (xe : Int)) := fun p => (R1.out.on p.2).cell 0 4 rfl
  refine wp_region_below (by kernel_rfl) (by kernel_rfl) ?_
  repeat (go_big_quiet_step (fail))
  go_big_quiet_step (exact calls_below (W8.out _))
  repeat (go_big_quiet_step (fail))
  go_big_quiet_step (exact calls_below (W12.out _))
  repeat (go_big_quiet_step (fail))
  refine wpQuiet_nil ?_
  rintro _ ⟨p, rfl⟩
  have R2 := Lib.hid (R1.out.on p.2)
  generalize p.1 = w2 at R2 ⊢
  clear k2 k3 k4 R1 W8 W12 o4 o5 o6 q4 q5 q6 a2 s1
  have B0 := Lib.hid (show Bt 75 w2.heap.size w (finL T 0) (w2.alloc (.cells #[.int .u8 0, .int .u8 0, .int .u8 0, .int .u8 0, .int .u8 0, .int .u8 0, .int .u8 0, .int .u8 0, .int .u8 0, .int .u8 0, .int .u8 0, .int .u8 0, .int .u8 0, .int .u8 0, .int .u8 0, .int .u8 0] 75 (0, 0))) from by
    rw [HF0.out, zeros16]; exact Bt.made R2.out.bel _)
  go_upto_region 4 with fail
  generalize w2.alloc (.cells #[.int .u8 0, .int .u8 0, .int .u8 0, .int .u8 0, .int .u8 0, .int .u8 0, .int .u8 0, .int .u8 0, .int .u8 0, .int .u8 0, .int .u8 0, .int .u8 0, .int .u8 0, .int .u8 0, .int .u8 0, .int .u8 0] 75 (0, 0)) = w3 at B0 ⊢
  generalize w2.heap.size = go at B0 ⊢
  clear R2
  go_wp2_with fail
  go_loopw [53] (fun c wr => ∃ j : Nat, j ≤ 8 ∧ c = .int .i64 j ∧ Bt 75 go w (finL T j) wr) (fun c _ => 8 - (intOf c).toNat)
  case atStart => exact ⟨0, by omega, rfl, B0.out⟩
  case round =>
    obtain ⟨j, hj, rfl, hr⟩ := hrel
    have R4 := Lib.hid hr
    clear hr B0
    by_cases hlt : j < 8
    · have j1 : (j : Int) < 8 := by omega
      have j0 : (0 : Int) ≤ j := by omega
      have HLT := Lib.hid hlt
      have r8 : j = 0 ∨ j = 1 ∨ j = 2 ∨ j = 3 ∨ j = 4 ∨ j = 5 ∨ j = 6 ∨ j = 7 := by omega
      have cj := R4.out.cell j (by rw [length_finL]; omega)
      have fj := R4.out.free j
      have put := R4.out.put j (UInt8.ofNat (T / 256 ^ j % 256))
      have ck := put.cell (8 + j) (by rw [List.length_set, length_finL]; omega)
      have fk := put.free (8 + j)
      have put2 := put.put (8 + j) (UInt8.ofNat (T / 256 ^ (8 + j) % 256))
      rw [HFS.out j hlt] at put2
      have d1 := HDL.out j hlt
      have d2 := HDH.out j hlt
      have b1 := dig_lt 256 (by decide) T j
      have b2 := dig_lt 256 (by decide) T (8 + j)
      obtain ⟨x1, ex1⟩ : ∃ n, T / 256 ^ j % 256 = n := ⟨_, rfl⟩
      obtain ⟨x2, ex2⟩ : ∃ n, T / 256 ^ (8 + j) % 256 = n := ⟨_, rfl⟩
      rw [ex1] at put put2 d1 b1 ck fk
      rw [ex2] at put2 d2 b2
      have hv1 : valB (UInt8.ofNat x1) = .int .u8 (x1 : Int) := by rw [valB, UInt8.toNat_ofNat', show x1 % 2 ^ 8 = x1 by omega]
      have hv2 : valB (UInt8.ofNat x2) = .int .u8 (x2 : Int) := by rw [valB, UInt8.toNat_ofNat', show x2 % 2 ^ 8 = x2 by omega]
      rw [hv1] at put put2 ck fk
      rw [hv2] at put2
      have PUT := Lib.hid put2
      generalize ((finL T j).getD j 0).toNat = u1 at cj
      generalize (((finL T j).set j (UInt8.ofNat x1)).getD (8 + j) 0).toNat = u2 at ck
      have l0 := HT0.out
      have l1 := HT1.out
      have LL := Lib.hid (And.intro l0 l1)
      obtain ⟨k, hk⟩ : ∃ k, 8 + j = k := ⟨_, rfl⟩
      rw [hk] at ck fk PUT
      have e3 : (8 : Int) + (j : Int) = (k : Int) := by omega
      have e4 : (k : Int) < 16 := by omega
      have e5 : (0 : Int) ≤ (k : Int) := by omega
      have D1 := Lib.hid d1
      have D2 := Lib.hid d2
      clear hlt hj put put2 ex1 ex2 hv1 hv2 b1 b2 d1 d2 l0 l1 hk
      have lo0 : (0 : Int) ≤ (lo : Int) := by omega
      have hi0 : (0 : Int) ≤ (hi : Int) := by omega
      rcases r8 with h8 | h8 | h8 | h8 | h8 | h8 | h8 | h8
      · have rk : (8 : Int) * (j : Int) = 0 := by omega
        have vb : (lo : Int) % 256 = (x1 : Int) := by have := D1.out; rw [h8, show (256 : Nat) ^ 0 = 1 by decide] at this; omega
        have vh : (hi : Int) % 256 = (x2 : Int) := by have := D2.out; rw [h8, show (256 : Nat) ^ 0 = 1 by decide] at this; omega
        clear h8
        go_upto_region 8 with fail
        generalize World.setCell wr _ _ = w6 at ck fk PUT ⊢
        clear cj fj vb
        go_wp2_with fail
        go_roundw
        case rel => exact ⟨j + 1, by have := HLT.out; omega, by go_num, PUT.out⟩
        case measure => simp [intOf]; have := HLT.out; omega
      · have rk : (8 : Int) * (j : Int) = 8 := by omega
        have vb : (lo : Int) / 256 % 256 = (x1 : Int) := by have := D1.out; rw [h8, show (256 : Nat) ^ 1 = 256 by decide] at this; omega
        have vh : (hi : Int) / 256 % 256 = (x2 : Int) := by have := D2.out; rw [h8, show (256 : Nat) ^ 1 = 256 by decide] at this; omega
        clear h8
        go_upto_region 8 with fail
        generalize World.setCell wr _ _ = w6 at ck fk PUT ⊢
        clear cj fj vb
        go_wp2_with fail
        go_roundw
        case rel => exact ⟨j + 1, by have := HLT.out; omega, by go_num, PUT.out⟩
        case measure => simp [intOf]; have := HLT.out; omega
      · have rk : (8 : Int) * (j : Int) = 16 := by omega
        have vb : (lo : Int) / 65536 % 256 = (x1 : Int) := by have := D1.out; rw [h8, show (256 : Nat) ^ 2 = 65536 by decide] at this; omega
        have vh : (hi : Int) / 65536 % 256 = (x2 : Int) := by have := D2.out; rw [h8, show (256 : Nat) ^ 2 = 65536 by decide] at this; omega
        clear h8
        go_upto_region 8 with fail
        generalize World.setCell wr _ _ = w6 at ck fk PUT ⊢
        clear cj fj vb
        go_wp2_with fail
        go_roundw
        case rel => exact ⟨j + 1, by have := HLT.out; omega, by go_num, PUT.out⟩
        case measure => simp [intOf]; have := HLT.out; omega
      · have rk : (8 : Int) * (j : Int) = 24 := by omega
        have vb : (lo : Int) / 16777216 % 256 = (x1 : Int) := by have := D1.out; rw [h8, show (256 : Nat) ^ 3 = 16777216 by decide] at this; omega
        have vh : (hi : Int) / 16777216 % 256 = (x2 : Int) := by have := D2.out; rw [h8, show (256 : Nat) ^ 3 = 16777216 by decide] at this; omega
        clear h8
        go_upto_region 8 with fail
        generalize World.setCell wr _ _ = w6 at ck fk PUT ⊢
        clear cj fj vb
        go_wp2_with fail
        go_roundw
        case rel => exact ⟨j + 1, by have := HLT.out; omega, by go_num, PUT.out⟩
        case measure => simp [intOf]; have := HLT.out; omega
      · have rk : (8 : Int) * (j : Int) = 32 := by omega
        have vb : (lo : Int) / 4294967296 % 256 = (x1 : Int) := by have := D1.out; rw [h8, show (256 : Nat) ^ 4 = 4294967296 by decide] at this; omega
        have vh : (hi : Int) / 4294967296 % 256 = (x2 : Int) := by have := D2.out; rw [h8, show (256 : Nat) ^ 4 = 4294967296 by decide] at this; omega
        clear h8
        go_upto_region 8 with fail
        generalize World.setCell wr _ _ = w6 at ck fk PUT ⊢
        clear cj fj vb
        go_wp2_with fail
        go_roundw
        case rel => exact ⟨j + 1, by have := HLT.out; omega, by go_num, PUT.out⟩
        case measure => simp [intOf]; have := HLT.out; omega
      · have rk : (8 : Int) * (j : Int) = 40 := by omega
        have vb : (lo : Int) / 1099511627776 % 256 = (x1 : Int) := by have := D1.out; rw [h8, show (256 : Nat) ^ 5 = 1099511627776 by decide] at this; omega
        have vh : (hi : Int) / 1099511627776 % 256 = (x2 : Int) := by have := D2.out; rw [h8, show (256 : Nat) ^ 5 = 1099511627776 by decide] at this; omega
        clear h8
        go_upto_region 8 with fail
        generalize World.setCell wr _ _ = w6 at ck fk PUT ⊢
        clear cj fj vb
        go_wp2_with fail
        go_roundw
        case rel => exact ⟨j + 1, by have := HLT.out; omega, by go_num, PUT.out⟩
        case measure => simp [intOf]; have := HLT.out; omega
      · have rk : (8 : Int) * (j : Int) = 48 := by omega
        have vb : (lo : Int) / 281474976710656 % 256 = (x1 : Int) := by have := D1.out; rw [h8, show (256 : Nat) ^ 6 = 281474976710656 by decide] at this; omega
        have vh : (hi : Int) / 281474976710656 % 256 = (x2 : Int) := by have := D2.out; rw [h8, show (256 : Nat) ^ 6 = 281474976710656 by decide] at this; omega
        clear h8
        go_upto_region 8 with fail
        generalize World.setCell wr _ _ = w6 at ck fk PUT ⊢
        clear cj fj vb
        go_wp2_with fail
        go_roundw
        case rel => exact ⟨j + 1, by have := HLT.out; omega, by go_num, PUT.out⟩
        case measure => simp [intOf]; have := HLT.out; omega
      · have rk : (8 : Int) * (j : Int) = 56 := by omega
        have vb : (lo : Int) / 72057594037927936 % 256 = (x1 : Int) := by have := D1.out; rw [h8, show (256 : Nat) ^ 7 = 72057594037927936 by decide] at this; omega
        have vh : (hi : Int) / 72057594037927936 % 256 = (x2 : Int) := by have := D2.out; rw [h8, show (256 : Nat) ^ 7 = 72057594037927936 by decide] at this; omega
        clear h8
        go_upto_region 8 with fail
        generalize World.setCell wr _ _ = w6 at ck fk PUT ⊢
        clear cj fj vb
        go_wp2_with fail
        go_roundw
        case rel => exact ⟨j + 1, by have := HLT.out; omega, by go_num, PUT.out⟩
        case measure => simp [intOf]; have := HLT.out; omega
    · have j1 : ¬ ((j : Int) < 8) := by omega
      have hj8 : j = 8 := by omega
      have r7 := R4.out
      rw [hj8] at r7
      have hcv := r7.conv 16 16 (length_finL T 8)
      rw [HR8.out] at hcv
      have HB := Lib.hid r7.bel
      clear r7 hj8 hlt hj R4
      go_wp2_with fail
      go_ret
      exact ⟨rfl, HB.out⟩
end Go.Proofs.Ytkfacnegfkgcgaa

/-
  poly.Tag: the walk.
-/
namespace Go.Proofs.Ytkfacnegfkgcgaa
open Go.RowKit MS

theorem wpQuiet_load_rowP {P : Program} {ops : Array Oper} {C : World → Prop} {Q : Act → Prop} {a : Act} {o : Oper} {rest : List Oper} (hgd : o.guard = none) (ty : TypeId) (x : Operand) (ho : o.op = .load ty x)
    (g : Nat) (hx : a.eval x = .pointer (some ⟨g, 0, none⟩)) (t : TypeId) (cs : Array Value) (fr : Nat × Nat) (d : TypeDesc) (hC : ∀ w, C w → w.heap[g]? = some (.cells cs t fr))
    (hu : P.underlying ty = some d) (hd : (match d with | .struct _ | .array _ _ => true | _ => false) = true) (hi : (P.info? ty).map (·.size) = some cs.size)
    (h : wpQuiet P ops C Q rest (a.put o.dst (.agg cs))) : wpQuiet P ops C Q (o :: rest) a := by
  show if Region.wanted o (yielded ops a.tmps) = true then _ else _
  rw [if_pos (by simp [Region.wanted, hgd])]
  refine ⟨.agg cs, fun w hw => ?_, h⟩
  unfold Oper.quietAt execOp
  simp only [ho, hx, Instr.loadAt, Instr.sureAddr, Sem.run_bind, Sem.run_pure, Result.andThen_ok, run_loadVar_row w g t ty cs fr d (hC w hw) hu hd hi]
  exact ⟨rfl, rfl⟩

theorem tag_no (key s : ByteArray) (hk : key.size ≠ 32) (w : World) :
    Calls Try.prog 26 #[.string key, .string s] w fun e w' => e = .returned (.tuple #[.string ⟨#[]⟩, .bool false]) ∧ Below w.heap.size w w' := by
  have t1 : ((key.size : Int) != 32) = true := by simp; omega
  clear hk
  go_enter Try.func26, Try.ntmps26
  go_wp2_with fail
  go_ret2
  exact ⟨rfl, Below.refl _ _⟩

def addL (h b : L5) : L5 := ⟨h.a + b.a, h.b + b.b, h.c + b.c, h.d + b.d, h.e + b.e⟩
theorem addL_v (h b : L5) : (addL h b).v = h.v + b.v := by
  simp only [addL, L5.v]; omega
theorem addL_row (h b : L5) : rowF (fun i => getL h i + getL b i) = lvA (addL h b) := rowF_congr fun i hi => by
  have : i = 0 ∨ i = 1 ∨ i = 2 ∨ i = 3 ∨ i = 4 := by omega
  rcases this with rfl | rfl | rfl | rfl | rfl <;> rfl
/-- A block's limbs. -/
def fullL (v : Nat) : L5 := ⟨(splitL v).a, (splitL v).b, (splitL v).c, (splitL v).d, (splitL v).e + 16777216⟩
theorem fullL_v (v : Nat) : (fullL v).v = v + 256 ^ 16 := by
  have := splitL_v v
  rw [show (256 : Nat) ^ 16 = 340282366920938463463374607431768211456 by decide]
  unfold L5.v at this
  simp only [fullL, L5.v]
  omega
theorem fullL_in {v : Nat} (h : v < 340282366920938463463374607431768211456) : (fullL v).in26 := by
  obtain ⟨⟨h0, h1, h2, h3, h4⟩, h5⟩ := splitL_in h
  unfold L5.in26 fullL
  simp only
  omega
theorem fullL_row (v : Nat) : rowF (upd (getL (splitL v)) 4 (getL (splitL v) 4 + 16777216)) = lvA (fullL v) := by
  refine rowF_congr fun i hi => ?_
  have : i = 0 ∨ i = 1 ∨ i = 2 ∨ i = 3 ∨ i = 4 := by omega
  rcases this with rfl | rfl | rfl | rfl | rfl <;> simp [upd, getL, fullL]
theorem addL_in {h b : L5} (hh : h.in27) (hb : b.in26) : (addL h b).in28 := by
  obtain ⟨h0, h1, h2, h3, h4⟩ := hh
  obtain ⟨b0, b1, b2, b3, b4⟩ := hb
  unfold L5.in28 addL
  simp only
  omega
/-- One round of the sum. -/
theorem tag_round {h b r : L5} {H : Nat} (hh : h.in27) (hb : b.in26) (hr : r.in26) (hH : h.v % P130 = H) : (mulL (addL h b) r).in27 ∧ (mulL (addL h b) r).v % P130 = (H + b.v) * r.v % P130 := by
  refine ⟨mulL_in (addL_in hh hb) hr, ?_⟩
  rw [mulL_mod, addL_v, ← hH]
  conv => lhs; rw [Nat.mul_mod, Nat.add_mod]
  conv => rhs; rw [Nat.mul_mod, Nat.add_mod, Nat.mod_mod]
def strSize : Value → Nat
  | .string b => b.size
  | _ => 0
def zeroL : L5 := ⟨0, 0, 0, 0, 0⟩
/-- What the outer loop keeps. -/
structure TgS (w0 : World) (g6 g7 r V : Nat) (l : List UInt8) (k : Nat) (w : World) : Prop where
  st : ∃ h : L5, h.in27 ∧ h.v % P130 = hP r l k ∧ Rw w0 [(g6, lvA (pclampL V), 61), (g7, lvA h, 61)] w

theorem cur_size (s : ByteArray) (k : Nat) : (s.extract (16 * k) s.size).size = s.size - 16 * k := size_extract_to s (16 * k)
theorem cur_head (s : ByteArray) (k : Nat) (h : 16 * k + 16 ≤ s.size) : ls ((s.extract (16 * k) s.size).extract 0 16) = blkP (ls s) k := by
  rw [extract_head s (16 * k) 16 h, ls_extract, blkP, Nat.add_sub_cancel_left]
theorem cur_last (s : ByteArray) (k : Nat) (h : s.size < 16 * k + 16) : ls (s.extract (16 * k) s.size) = blkP (ls s) k := by
  have hl := length_ls s
  rw [ls_extract, blkP, List.take_of_length_le (by simp; omega), List.take_of_length_le (by simp; omega)]
theorem ext_whole (s : ByteArray) : s.extract 0 s.size = s := by
  apply ls_inj
  rw [ls_extract, List.drop_zero, List.take_of_length_le (by rw [length_ls]; omega)]
theorem cur_next (s : ByteArray) (k : Nat) (h : 16 * k + 16 ≤ s.size) : (s.extract (16 * k) s.size).extract 16 (s.size - 16 * k) = s.extract (16 * (k + 1)) s.size := extract_tail s (16 * k) 16 h
theorem ext_none (s t : ByteArray) (a b c d : Nat) (h : b ≤ a) (h2 : d ≤ c) : s.extract a b = t.extract c d := by
  apply ls_inj
  rw [ls_extract, ls_extract, show b - a = 0 by omega, show d - c = 0 by omega, List.take_zero, List.take_zero]

set_option maxRecDepth 1000000 in
set_option maxHeartbeats 4000000 in
theorem tag_yes (key s : ByteArray) (w : World) (hk : key.size = 32) (hs : s.size ≤ 100000) :
    Calls Try.prog 26 #[.string key, .string s] w fun e w' => e = .returned (.tuple #[.string (tagB key s), .bool true]) ∧ Below w.heap.size w w' := by
  have t1 : ((key.size : Int) != 32) = false := by simp; omega
  have k16 : (16 : Int) ≤ key.size := by omega
  have e1 : (key.extract 0 16).size = 16 := by rw [ByteArray.size_extract]; omega
  have e2 : ls (key.extract 0 16) = (ls key).take 16 := by rw [ls_extract, List.drop_zero]
  have e3 : (key.extract 16 key.size).size = 16 := by rw [ByteArray.size_extract]; omega
  have e4 : ls (key.extract 16 key.size) = (ls key).drop 16 := by
    rw [ls_extract, List.take_of_length_le (by rw [List.length_drop, length_ls]; omega)]
  have C1 := Lib.hid (fun w => polyclamp_any (key.extract 0 16) w e1)
  have F1 := Lib.hid (fun x hx w => finish_poly x (key.extract 16 key.size) hx e3 w)
  rw [e2] at C1
  rw [e4] at F1
  have HLV := Lib.hid (show leb ((ls key).take 16) < 340282366920938463463374607431768211456 by
    have := leb_lt ((ls key).take 16)
    rwa [List.length_take, length_ls, hk, show (256 : Nat) ^ min 16 32 = 340282366920938463463374607431768211456 by decide] at this)
  have HR := Lib.hid (show tagB key s = bs (nbs 16 (hP (clampN (leb ((ls key).take 16))) (ls s) ((s.size + 15) / 16) + leb ((ls key).drop 16))) from rfl)
  have HV := Lib.hid (show clampN (leb ((ls key).take 16)) = (pclampL (leb ((ls key).take 16))).v from rfl)
  have HIN := Lib.hid (pclampL_in HLV.out)
  have HS := Lib.hid hs
  generalize leb ((ls key).take 16) = V at *
  generalize leb ((ls key).drop 16) = H at *
  generalize tagB key s = R at HR ⊢
  have R0 := Rw.nil w
  have IR := Lib.hid (pinfoL (getL (pclampL V)))
  have OR := Lib.hid (one_rowF (getL (pclampL V)))
  have LR := Lib.hid (show (#[.int .u64 0, .int .u64 0, .int .u64 0, .int .u64 0, .int .u64 0] : Array Value).size = (rowF (getL (pclampL V))).size from rfl)
  have C2 := Lib.hid (show ∀ w, Calls Try.prog 38 #[.string (key.extract 0 16)] w fun e w' => e = .returned (.agg (rowF (getL (pclampL V)))) ∧ Below w.heap.size w w' from C1.out)
  clear hk hs e1 e2 e3 e4 C1
  go_enter Try.func26, Try.ntmps26
  go_wp2_with fail
  refine (C2.out _).mono ?_
  rintro e w1 ⟨rfl, hb1⟩
  have R1 := (R0.on hb1).alloc #[.int .u64 0, .int .u64 0, .int .u64 0, .int .u64 0, .int .u64 0] 61
  simp only [List.nil_append] at R1
  have RW1 := Lib.hid (R1.row 0)
  have R2 := R1.store 0 (rowF (getL (pclampL V)))
  simp only [List.set_cons_zero] at R2
  have RR2 := Lib.hid R2
  clear hb1 R0 R1 R2 C2
  go_upto_region 4 with (with_reducible refine wpList_store_row rfl 61 (.tmp 6) (.tmp 16) rfl w1.heap.size (rowF (getL (pclampL V))) rfl rfl 61 #[.int .u64 0, .int .u64 0, .int .u64 0, .int .u64 0, .int .u64 0] RW1.out IR.out LR.out OR.out ?_)
  generalize World.setRow _ _ (rowF (getL (pclampL V))) = w2 at RR2 ⊢
  generalize w1.heap.size = g6 at RR2 ⊢
  have R3 := RR2.out.alloc #[.int .u64 0, .int .u64 0, .int .u64 0, .int .u64 0, .int .u64 0] 61
  simp only [List.cons_append, List.nil_append] at R3
  have RR3 := Lib.hid (show Rw w [(g6, lvA (pclampL V), 61), (w2.heap.size, lvA zeroL, 61)] (w2.alloc (.cells #[.int .u64 0, .int .u64 0, .int .u64 0, .int .u64 0, .int .u64 0] 61 (0, 0))) from R3)
  clear R3 RR2 RW1
  go_wp2_with fail
  generalize w2.alloc (.cells #[.int .u64 0, .int .u64 0, .int .u64 0, .int .u64 0, .int .u64 0] 61 (0, 0)) = w3 at RR3 ⊢
  generalize w2.heap.size = g7 at RR3 ⊢
  have HX0 := Lib.hid (show Value.string s = .string (s.extract (16 * 0) s.size) by rw [Nat.mul_zero, ext_whole])
  have T0 := Lib.hid (show TgS w g6 g7 (clampN V) V (ls s) 0 w3 from ⟨zeroL, by unfold L5.in27 zeroL; decide, by rfl, RR3.out⟩)
  clear RR3
  go_loopw [1] (fun sv wr => ∃ k : Nat, k ≤ (s.size + 15) / 16 ∧ sv = .string (s.extract (16 * k) s.size) ∧ TgS w g6 g7 (clampN V) V (ls s) k wr) (fun sv _ => strSize sv)
  case atStart => exact ⟨0, Nat.zero_le _, HX0.out, T0.out⟩
  case round =>
    obtain ⟨k, hkn, rfl, hr⟩ := hrel
    obtain ⟨h, h27, hv, R4⟩ := hr.st
    have RR4 := Lib.hid R4
    have H27 := Lib.hid h27
    have HHV := Lib.hid hv
    have HKN := Lib.hid hkn
    have hcs := cur_size s k
    clear hr R4 h27 hv hkn T0 HX0
    obtain ⟨cur, hcur⟩ : ∃ cur, s.extract (16 * k) s.size = cur := ⟨_, rfl⟩
    rw [hcur] at hcs ⊢
    have HCUR := Lib.hid hcur
    have sb : (cur.size : Int) ≤ 100000 := by have := HS.out; omega
    have HCS := Lib.hid hcs
    by_cases hlt : 16 * k < s.size
    · have j1 : (cur.size : Int) > 0 := by omega
      have HLT := Lib.hid hlt
      by_cases hfull : 16 * k + 16 ≤ s.size
      case' pos =>
        have q1 : (16 : Int) ≤ cur.size := by omega
        have q2 : (if (cur.size : Int) < 16 then (cur.size : Int) else 16) = 16 := if_neg (by omega)
        have q3 : True := trivial
        have hb16 : (cur.extract 0 16).size = 16 := by rw [ByteArray.size_extract]; omega
        have P1 := Lib.hid (fun w => pad_full (cur.extract 0 16) w hb16)
        have S1 := Lib.hid (fun w => split_any (cur.extract 0 16) w hb16)
        have hblk := cur_head s k hfull
        rw [hcur] at hblk
        rw [hblk] at S1
        have hlv : leb (blkP (ls s) k) < 340282366920938463463374607431768211456 := by
          have := leb_lt (ls (cur.extract 0 16))
          rwa [hblk, ← hblk, length_ls, hb16, hblk, show (256 : Nat) ^ 16 = 340282366920938463463374607431768211456 by decide] at this
        have HBIN := Lib.hid (fullL_in hlv)
        have HBV := Lib.hid (show (fullL (leb (blkP (ls s) k))).v = leb (blkP (ls s) k) + 256 ^ (blkP (ls s) k).length from by
          rw [fullL_v, ← hblk, length_ls, hb16])
        have HROW := Lib.hid (fullL_row (leb (blkP (ls s) k)))
        have B26 := Lib.hid (getL_26 (splitL_in hlv).1)
        have HNX := Lib.hid (show cur.extract 16 cur.size = s.extract (16 * (k + 1)) s.size from by rw [← hcur, cur_size]; exact cur_next s k hfull)
        have S2 := Lib.hid (show ∀ w, Calls Try.prog 39 #[.string (cur.extract 0 16)] w fun e w' => e = .returned (.agg (rowF (getL (splitL (leb (blkP (ls s) k)))))) ∧ Below w.heap.size w w' from S1.out)
        obtain ⟨b, hb⟩ : ∃ b, fullL (leb (blkP (ls s) k)) = b := ⟨_, rfl⟩
        rw [hb] at HBIN HBV HROW
        generalize getL (splitL (leb (blkP (ls s) k))) = X at *
        have IX := Lib.hid (pinfoL X)
        have OX := Lib.hid (one_rowF X)
        have LX := Lib.hid (show (#[.int .u64 0, .int .u64 0, .int .u64 0, .int .u64 0, .int .u64 0] : Array Value).size = (rowF X).size from rfl)
        clear hcur hcs hlt hfull hb16 hblk hlv S1 hb
        go_wp2_with fail
        refine (P1.out _).mono ?_
        rintro e w4 ⟨rfl, hb4⟩
        have R5 := Lib.hid (RR4.out.on hb4)
        clear hb4 P1
        go_wp2_with fail
        refine (S2.out _).mono ?_
        rintro e w5 ⟨rfl, hb5⟩
        have R6 := (R5.out.on hb5).alloc #[.int .u64 0, .int .u64 0, .int .u64 0, .int .u64 0, .int .u64 0] 61
        simp only [List.cons_append, List.nil_append] at R6
        have RW6 := Lib.hid (R6.row 2)
        have R7 := R6.store 2 (rowF X)
        simp only [List.set_cons_zero, List.set_cons_succ] at R7
        have R8 := Lib.hid R7
        clear hb5 S2 R5 R6 R7 RR4
        go_upto_region 9 with (with_reducible refine wpList_store_row rfl 61 (.tmp 9) (.tmp 27) rfl w5.heap.size (rowF X) rfl rfl 61 #[.int .u64 0, .int .u64 0, .int .u64 0, .int .u64 0, .int .u64 0] RW6.out IX.out LX.out OX.out ?_)
        generalize World.setRow _ _ (rowF X) = w7 at R8 ⊢
        generalize w5.heap.size = g9 at R8 ⊢
        have k4 := R8.out.cell 2 4 (rowF_get _ 4 (by decide))
        have f4 := R8.out.free 2 4
        have p4 := R8.out.put 2 4 (.int .u64 ((X 4 + 16777216 : Nat) : Int))
        rw [rowF_set _ _ _ (by decide), HROW.out] at p4
        simp only [List.set_cons_zero, List.set_cons_succ] at p4
        have b4 := B26.out 4
        have q4 : ((X 4 + 16777216 : Nat) : Int) = (X 4 : Int) + 16777216 := by omega
        rw [q4] at p4
        have P4 := Lib.hid p4
        generalize X 4 = x4 at *
        have b5 : (x4 : Int) < 67108864 := by omega
        clear p4 R8 RW6 IX OX LX B26 HROW q4 b4
        go_upto_region 10 with fail
        generalize World.setCell _ _ _ = wq at P4 ⊢
        have RR9 := Lib.hid P4.out
        clear P4 k4 f4 b5
      case' neg =>
        have q1 : True := trivial
        have q2 : (if (cur.size : Int) < 16 then (cur.size : Int) else 16) = (cur.size : Int) := if_pos (by omega)
        have q3 : ((cur.size : Int) == 16) = false := by simp; omega
        have hb16 : cur.size ≤ 15 := by omega
        have P1 := Lib.hid (fun w => pad_part cur w hb16)
        have S1 := Lib.hid (fun w => split_any (padP cur) w (size_padP cur hb16))
        have hblk := cur_last s k (by omega)
        rw [hcur] at hblk
        rw [leb_padP, hblk] at S1
        have hlv : leb (blkP (ls s) k) + 256 ^ cur.size < 340282366920938463463374607431768211456 := by
          have := leb_lt (ls (padP cur))
          rwa [leb_padP, hblk, length_ls, size_padP cur hb16, show (256 : Nat) ^ 16 = 340282366920938463463374607431768211456 by decide] at this
        have HBIN := Lib.hid (splitL_in hlv).1
        have HBV := Lib.hid (show (splitL (leb (blkP (ls s) k) + 256 ^ cur.size)).v = leb (blkP (ls s) k) + 256 ^ (blkP (ls s) k).length from by
          rw [splitL_v, ← hblk, length_ls])
        have hext := ext_whole cur
        have HNX := Lib.hid (show ByteArray.empty = s.extract (16 * (k + 1)) s.size from by apply ls_inj; rw [ls_extract, show s.size - 16 * (k + 1) = 0 by omega, List.take_zero]; rfl)
        have S2 := Lib.hid (show ∀ w, Calls Try.prog 39 #[.string (padP cur)] w fun e w' => e = .returned (.agg (rowF (getL (splitL (leb (blkP (ls s) k) + 256 ^ cur.size))))) ∧ Below w.heap.size w w' from S1.out)
        obtain ⟨b, hb⟩ : ∃ b, splitL (leb (blkP (ls s) k) + 256 ^ cur.size) = b := ⟨_, rfl⟩
        rw [hb] at HBIN HBV S2
        have IX := Lib.hid (pinfoL (getL b))
        have OX := Lib.hid (one_rowF (getL b))
        have LX := Lib.hid (show (#[.int .u64 0, .int .u64 0, .int .u64 0, .int .u64 0, .int .u64 0] : Array Value).size = (rowF (getL b)).size from rfl)
        clear hcur hcs hlt hfull hb16 hblk hlv S1 hb
        go_wp2_with fail
        refine (P1.out _).mono ?_
        rintro e w4 ⟨rfl, hb4⟩
        have R5 := Lib.hid (RR4.out.on hb4)
        clear hb4 P1
        go_wp2_with fail
        refine (S2.out _).mono ?_
        rintro e w5 ⟨rfl, hb5⟩
        have R6 := (R5.out.on hb5).alloc #[.int .u64 0, .int .u64 0, .int .u64 0, .int .u64 0, .int .u64 0] 61
        simp only [List.cons_append, List.nil_append] at R6
        have RW6 := Lib.hid (R6.row 2)
        have R7 := R6.store 2 (rowF (getL b))
        simp only [List.set_cons_zero, List.set_cons_succ] at R7
        have RR9 := Lib.hid (show Rw w [(g6, lvA (pclampL V), 61), (g7, lvA h, 61), (w5.heap.size, lvA b, 61)] (World.setRow (w5.alloc (.cells #[.int .u64 0, .int .u64 0, .int .u64 0, .int .u64 0, .int .u64 0] 61 (0, 0))) w5.heap.size (rowF (getL b))) from R7)
        clear hb5 S2 R5 R6 R7 RR4
        go_upto_region 10 with (with_reducible refine wpList_store_row rfl 61 (.tmp 9) (.tmp 27) rfl w5.heap.size (rowF (getL b)) rfl rfl 61 #[.int .u64 0, .int .u64 0, .int .u64 0, .int .u64 0, .int .u64 0] RW6.out IX.out LX.out OX.out ?_)
        generalize World.setRow _ _ (rowF (getL b)) = wq at RR9 ⊢
        generalize w5.heap.size = g9 at RR9 ⊢
        clear RW6 IX OX LX hext
      all_goals
        have RR9 := Lib.hid (show Rw w [(g6, lvA (pclampL V), 61), (g7, rowF (prog (getL h) (fun i => getL h i + getL b i) 0), 61), (g9, rowF (getL b), 61)] wq from by rw [prog_zero]; exact RR9.out)
        have BH := Lib.hid (getL_28 (show h.in28 from by obtain ⟨h0, h1, h2, h3, h4⟩ := H27.out; unfold L5.in28; omega))
        have BB := Lib.hid (getL_26 HBIN.out)
        have ROUND := Lib.hid (tag_round H27.out HBIN.out HIN.out HHV.out)
        have HSUM := Lib.hid (addL_row h b)
        have M := Lib.hid (fun w => polymul_any (addL h b) (pclampL V) (addL_in H27.out HBIN.out) HIN.out w)
        have HNEW := Lib.hid (show hP (clampN V) (ls s) (k + 1) = (hP (clampN V) (ls s) k + (leb (blkP (ls s) k) + 256 ^ (blkP (ls s) k).length)) * clampN V % P130 from rfl)
        rw [HBV.out, ← HV.out, ← HNEW.out] at ROUND
        clear q2 q3 HNEW
        go_wp2_with fail
        obtain ⟨wo, rfl⟩ : ∃ wo : World, wo = wq := ⟨_, rfl⟩
        go_loopw [34] (fun c wr => ∃ j : Nat, j ≤ 5 ∧ c = .int .i64 j ∧ Rw w [(g6, lvA (pclampL V), 61), (g7, rowF (prog (getL h) (fun i => getL h i + getL b i) j), 61), (g9, rowF (getL b), 61)] wr) (fun c _ => 5 - (intOf c).toNat)
        case atStart => exact ⟨0, by omega, rfl, RR9.out⟩
        case round =>
          obtain ⟨j, hj, rfl, hr⟩ := hrel
          have R3 := Lib.hid hr
          clear hr RR9
          by_cases hlt : j < 5
          · have m1 : (j : Int) < 5 := by omega
            have m0 : (0 : Int) ≤ j := by omega
            have ca := R3.out.cell 1 j (rowF_get _ j hlt)
            have cb := R3.out.cell 2 j (rowF_get _ j hlt)
            have fa := R3.out.free 1 j
            rw [prog_at] at ca
            have bx := BH.out j
            have bby := BB.out j
            have put := R3.out.put 1 j (.int .u64 ((getL h j + getL b j : Nat) : Int))
            rw [rowF_set _ _ _ hlt, prog_set (getL h) (fun i => getL h i + getL b i)] at put
            simp only [List.set_cons_zero, List.set_cons_succ] at put
            have PUT := Lib.hid put
            obtain ⟨xj, hxj⟩ : ∃ n, getL h j = n := ⟨_, rfl⟩
            obtain ⟨yj, hyj⟩ : ∃ n, getL b j = n := ⟨_, rfl⟩
            rw [hxj, hyj] at put
            rw [hxj] at ca bx
            rw [hyj] at cb bby
            have hs : ((xj + yj : Nat) : Int) = (xj : Int) + (yj : Int) := by omega
            rw [hs] at put
            have PUT := Lib.hid put
            have HJ := Lib.hid hlt
            clear put hlt hs hj hxj hyj
            go_wp2_with fail
            go_still_tail 8, (by kernel_rfl)
            go_wp2_with fail
            go_roundw
            case rel => exact ⟨j + 1, by have := HJ.out; omega, by go_num, PUT.out.drew⟩
            case measure => simp [intOf]; have := HJ.out; omega
          · have m1 : ¬ ((j : Int) < 5) := by omega
            have hj5 : j = 5 := by omega
            have r4 := R3.out
            rw [hj5, prog_end, HSUM.out] at r4
            have R4 := Lib.hid r4
            have RWA := Lib.hid (r4.row 0)
            have RWB := Lib.hid (r4.row 1)
            have IA := Lib.hid (show (Try.prog.info? 61).map (·.size) = some (lvA (pclampL V)).size from pinfoL _)
            have IB := Lib.hid (show (Try.prog.info? 61).map (·.size) = some (lvA (addL h b)).size from pinfoL _)
            have IC := Lib.hid (show (Try.prog.info? 61).map (·.size) = some (lvA (mulL (addL h b) (pclampL V))).size from pinfoL _)
            have OC := Lib.hid (show (lvA (mulL (addL h b) (pclampL V))).all (·.oneCell') = true from one_rowF _)
            have LC := Lib.hid (show (lvA (addL h b)).size = (lvA (mulL (addL h b) (pclampL V))).size from rfl)
            obtain ⟨m, hm⟩ : ∃ m, mulL (addL h b) (pclampL V) = m := ⟨_, rfl⟩
            rw [hm] at M ROUND IC OC LC
            clear r4 hj5 hlt hj R3 hm BH BB HSUM
            go_wp2_with (first
              | (with_reducible refine wpList_load_row rfl 61 (.tmp 7) rfl g7 rfl 61 (lvA (addL h b)) (0, 0) _ RWB.out Try.underlying61 rfl IB.out ?_)
              | (with_reducible refine wpList_load_row rfl 61 (.tmp 6) rfl g6 rfl 61 (lvA (pclampL V)) (0, 0) _ RWA.out Try.underlying61 rfl IA.out ?_))
            refine (M.out _).mono ?_
            rintro e w9 ⟨rfl, hb9⟩
            have R5 := Lib.hid (R4.out.on hb9)
            have RWC := Lib.hid (R5.out.row 1)
            have R6 := R5.out.store 1 (lvA m)
            simp only [List.set_cons_zero, List.set_cons_succ] at R6
            have R7 := Lib.hid (show Rw w [(g6, lvA (pclampL V), 61), (g7, lvA m, 61)] (World.setRow w9 g7 (lvA m)) from ⟨List.Nodup.sublist (List.Sublist.cons_cons _ (List.Sublist.cons_cons _ (List.nil_sublist _))) R6.nd, fun r hr => R6.ge r (by simp at hr ⊢; rcases hr with hr | hr <;> simp [hr]), fun r hr => R6.rows r (by simp at hr ⊢; rcases hr with hr | hr <;> simp [hr]), R6.bel⟩)
            clear hb9 R6 R4 RWA RWB M
            go_wp2_with (with_reducible refine wpList_store_row rfl 61 (.tmp 7) (.tmp 48) rfl g7 (lvA m) rfl rfl 61 (lvA (addL h b)) RWC.out IC.out LC.out OC.out ?_)
            rw [HNX.out]
            go_roundw
            case rel => exact ⟨k + 1, by have := HLT.out; omega, rfl, ⟨m, ROUND.out.1, ROUND.out.2, R7.out⟩⟩
            case measure => show (s.extract (16 * (k + 1)) s.size).size < cur.size; rw [HCS.out, cur_size]; have := HLT.out; omega
    · have j1 : ¬ (cur.size : Int) > 0 := by omega
      have hkn : k = (s.size + 15) / 16 := by have := HKN.out; omega
      have LE := Lib.hid (fun w => polyleast_any h H27.out w)
      have FI := Lib.hid (fun w => F1.out (leastL h) (leastL_in H27.out) w)
      have HT := Lib.hid (show (leastL h).v + H = hP (clampN V) (ls s) ((s.size + 15) / 16) + H by rw [leastL_v H27.out, HHV.out, hkn])
      rw [HT.out, ← HR.out] at FI
      have IH := Lib.hid (show (Try.prog.info? 61).map (·.size) = some (lvA h).size from pinfoL _)
      have BB := Lib.hid RR4.out.bel
      clear hlt hkn hcur hcs
      go_upto_region 17 with fail
      refine wp_region_below (by kernel_rfl) (by kernel_rfl) ?_
      refine wpQuiet_load_rowP rfl 61 (.tmp 7) rfl g7 rfl 61 (lvA h) (0, 0) _ ?hC Try.underlying61 rfl IH.out ?_
      case hC => rintro w' ⟨p, rfl⟩; exact (RR4.out.on p.2).row 1
      simp only [Act.put, List.setIfInBounds_toArray, List.set_cons_zero, List.set_cons_succ]
      go_big_quiet_step (exact calls_below (LE.out _))
      repeat (go_big_quiet_step (fail))
      go_big_quiet_step (exact calls_below (FI.out _))
      repeat (go_big_quiet_step (fail))
      refine wpQuiet_nil ?_
      rintro _ ⟨p, rfl⟩
      have BP := Lib.hid (BB.out.trans (p.2.mono BB.out.size))
      generalize p.1 = wp at BP ⊢
      go_wp2_with fail
      go_ret2
      exact ⟨rfl, BP.out⟩
end Go.Proofs.Ytkfacnegfkgcgaa

/-
  mac.Same: the walk.
-/
namespace Go.Proofs.Ytkfacnegfkgcgaa
open Go.RowKit MS

/-- Which bits differ among the first j bytes. -/
def dfN (a b : List UInt8) : Nat → Nat
  | 0 => 0
  | j + 1 => dfN a b j ||| ((a.getD j 0).toNat ^^^ (b.getD j 0).toNat)
theorem xor_lt (x y : UInt8) : x.toNat ^^^ y.toNat < 256 := Nat.xor_lt_two_pow (n := 8) x.toNat_lt y.toNat_lt
theorem dfN_lt (a b : List UInt8) (j : Nat) : dfN a b j < 256 := by
  induction j with
  | zero => simp [dfN]
  | succ j ih => exact Nat.or_lt_two_pow (n := 8) ih (xor_lt _ _)
theorem dfN_zero (a b : List UInt8) (j : Nat) : dfN a b j = 0 ↔ ∀ i, i < j → a.getD i 0 = b.getD i 0 := by
  induction j with
  | zero => simp [dfN]
  | succ j ih =>
    rw [dfN, Nat.or_eq_zero_iff, ih]
    constructor
    · rintro ⟨h1, h2⟩ i hi
      rcases Nat.lt_or_ge i j with h | h
      · exact h1 i h
      · obtain rfl : i = j := by omega
        apply UInt8.toNat_inj.1
        have h3 : ((a.getD i 0).toNat ^^^ (b.getD i 0).toNat) ^^^ (b.getD i 0).toNat = (a.getD i 0).toNat := by rw [Nat.xor_assoc, Nat.xor_self, Nat.xor_zero]
        rw [h2, Nat.zero_xor] at h3
        exact h3.symm
    · intro h
      refine ⟨fun i hi => h i (by omega), ?_⟩
      rw [h j (Nat.lt_succ_self j)]
      exact Nat.xor_self _
theorem same_iff (a b : ByteArray) (h : a.size = b.size) : (((dfN (ls a) (ls b) a.size : Nat) : Int) == 0) = decide (a = b) := by
  have e : (dfN (ls a) (ls b) a.size = 0) ↔ a = b := by
    rw [dfN_zero]
    constructor
    · intro hh
      apply ls_inj
      apply List.ext_getElem (by rw [length_ls, length_ls, h])
      intro i h1 h2
      have := hh i (by rw [← length_ls]; exact h1)
      simpa [h1, h2] using this
    · rintro rfl i _
      rfl
  rw [Bool.eq_iff_iff, beq_iff_eq, decide_eq_true_eq]
  constructor
  · intro h
    exact e.1 (by omega)
  · intro h
    have := e.2 h
    omega

set_option maxHeartbeats 400000 in
theorem same_any (a b : ByteArray) (w : World) (ha : a.size ≤ 100000) :
    Calls Try.prog 50 #[.string a, .string b] w fun e w' => e = .returned (.bool (decide (a = b))) ∧ Below w.heap.size w w' := by
  by_cases hab : a.size = b.size
  · have HAB := Lib.hid hab
    have HSI := Lib.hid (same_iff a b hab)
    have t1 : ((a.size : Int) != b.size) = false := by simp; omega
    have sb : (a.size : Int) ≤ 100000 := by omega
    clear hab ha
    go_enter Try.func50, Try.ntmps50
    go_wp2_with fail
    go_loopw [5, 14] (fun v i wr => ∃ j : Nat, j ≤ a.size ∧ i = .int .i64 j ∧ v = .int .u8 (dfN (ls a) (ls b) j : Nat) ∧ Below w.heap.size w wr) (fun _ i _ => a.size - (intOf i).toNat)
    case atStart => exact ⟨0, by omega, rfl, rfl, Below.refl _ _⟩
    case round =>
      obtain ⟨j, hj, rfl, rfl, hb⟩ := hrel
      have HB := Lib.hid hb
      clear hb
      by_cases hja : j < a.size
      · have hjb : j < b.size := by have := HAB.out; omega
        have ji : (j : Int) < a.size := Int.ofNat_lt.2 hja
        have jb : (j : Int) < b.size := Int.ofNat_lt.2 hjb
        have jn : (0 : Int) ≤ j := Int.natCast_nonneg j
        have HN := Lib.hid (show dfN (ls a) (ls b) (j + 1) = dfN (ls a) (ls b) j ||| ((a[j]'hja).toNat ^^^ (b[j]'hjb).toNat) by rw [ls_get a j hja, ls_get b j hjb]; rfl)
        have hl := dfN_lt (ls a) (ls b) j
        have hxl := xor_lt (a[j]'hja) (b[j]'hjb)
        have hxor : bits .xor .u8 ((a[j]'hja).toNat : Int) ((b[j]'hjb).toNat : Int) = (((a[j]'hja).toNat ^^^ (b[j]'hjb).toNat : Nat) : Int) := u8_xor_nat _ _ (a[j]'hja).toNat_lt (b[j]'hjb).toNat_lt
        generalize dfN (ls a) (ls b) j = d at HN hl
        have hor := u8_or_nat d ((a[j]'hja).toNat ^^^ (b[j]'hjb).toNat) hl hxl
        clear hl hxl
        go_wp2_with fail
        go_quiet (fail)
        go_wp2_with fail
        go_roundw
        case rel => exact ⟨j + 1, by omega, by go_num, by rw [HN.out], below_drewN HB.out _⟩
        case measure => simp [intOf]; omega
      · have ji : ¬ ((j : Int) < a.size) := by omega
        have hjj : j = a.size := by omega
        rw [hjj]
        have hz := HSI.out
        clear hjj hja
        go_wp2_with fail
        go_ret
        exact ⟨rfl, HB.out⟩
  · have t1 : ((a.size : Int) != b.size) = true := by simp; omega
    have HD := Lib.hid (show decide (a = b) = false by
      apply decide_eq_false
      rintro rfl
      exact hab rfl)
    clear hab
    go_enter Try.func50, Try.ntmps50
    go_wp2_with fail
    go_ret
    exact ⟨by rw [HD.out]; rfl, Below.refl _ _⟩
end Go.Proofs.Ytkfacnegfkgcgaa

/-
  aead.align, aead.size: the walks.
-/
namespace Go.Proofs.Ytkfacnegfkgcgaa
open Go.RowKit MS

theorem alZ_mod (n k : Nat) (hk : k ≤ alZ n) : (n + k) % 16 = 0 ↔ k = alZ n := by unfold alZ at *; omega
def lenA : Value → Nat
  | .slice _ n _ => n
  | _ => 0
theorem own_form {w : World} {base n : Nat} {e : TypeId} {v : Value} {xs : List Value} (h : w.ownsRow base e 1 v n xs) : v = .slice none 0 0 ∧ n = 0 ∨ ∃ g cap, v = .slice (some ⟨g, 0, none⟩) n cap := by
  rcases Nat.eq_zero_or_pos n with h0 | h0
  · subst h0
    rcases h.2 with h1 | ⟨g, cap, cur, h1, _⟩
    · left; exact ⟨h1.1, rfl⟩
    · right; exact ⟨g, cap, h1⟩
  · obtain ⟨g, cap, h1, _⟩ := h.form h0
    exact .inr ⟨g, cap, h1⟩
theorem zeros_app (l : List UInt8) (k : Nat) : l ++ List.replicate (k + 1) 0 = l ++ List.replicate k 0 ++ [0] := by
  rw [List.append_assoc, ← List.replicate_succ']
theorem below_app2 {w0 wr w' : World} {base : Nat} (hb : Below base w0 wr) (hbase : base ≤ wr.heap.size) (o : Obj) (v : Value) (n : Nat) (e : TypeId) (xs : List Value) (ho : wr.ownsRow base e 1 v n xs) (hg : (wr.alloc o).grownBy w' v.ownBlock) : Below base w0 w' :=
  (hb.alloc hbase o).grown hg (by rw [World.size_alloc]; exact Nat.le_succ_of_le hbase) (fun m hm => (ho.lt m hm).1)

set_option maxRecDepth 100000 in
set_option maxHeartbeats 1000000 in
theorem align_any (base n : Nat) (v : Value) (l : List UInt8) (w : World) (hbase : base ≤ w.heap.size) (hl : l.length = n) (hn : n ≤ 100000) (ho : w.ownsRow base 5 1 v n (vls l)) :
    Calls Try.prog 57 #[v] w fun e w' => Below base w w' ∧ ∃ r, e = .returned r ∧ w'.ownsRow base 5 1 r (n + alZ n) (vls (alignL l)) := by
  obtain ⟨i8, hj0, hy0, hy1, hy2⟩ : ∃ i, Try.prog.info? 5 = some i ∧ i.zero = some (.int .u8 0) ∧ i.size = 1 ∧ i.bytes = 1 := ⟨_, rfl, rfl, rfl, rfl⟩
  have HO0 := Lib.hid (show w.ownsRow base 5 1 v (n + 0) (vls (l ++ List.replicate 0 0)) from by rw [Nat.add_zero, List.replicate_zero, List.append_nil]; exact ho)
  have HB0 := Lib.hid (Below.refl base w)
  have HBASE := Lib.hid hbase
  have HN := Lib.hid hn
  have HZ := Lib.hid (alZ_le n)
  have HM := Lib.hid (alZ_mod n)
  have HE := Lib.hid (show alignL l = l ++ List.replicate (alZ n) 0 from by rw [alignL, hl])
  clear ho hbase hn hl
  go_enter Try.func57, Try.ntmps57
  go_wp2_with fail
  go_loopw [0] (fun x wr => ∃ k : Nat, k ≤ alZ n ∧ wr.ownsRow base 5 1 x (n + k) (vls (l ++ List.replicate k 0)) ∧ Below base w wr) (fun x _ => n + 16 - lenA x)
  case atStart => exact ⟨0, Nat.zero_le _, HO0.out, HB0.out⟩
  case round =>
    obtain ⟨k, hk, ho, hb⟩ := hrel
    have HO := Lib.hid ho
    have HB := Lib.hid hb
    have HK := Lib.hid hk
    have hs0 : base ≤ wr.heap.size := Nat.le_trans HBASE.out hb.size
    have hm := HM.out k hk
    have hZ15 := HZ.out
    have hn5 := HN.out
    have HF := Lib.hid (own_form ho)
    clear ho hb hk HO0 HB0
    by_cases hlt : k = alZ n
    · have m0 : (n + k) % 16 = 0 := hm.2 hlt
      have m1 : (((n + k : Nat) : Int) % 16 != 0) = false := by simp; omega
      have HL := Lib.hid (show wr.ownsRow base 5 1 _ (n + alZ n) (vls (alignL l)) from by rw [HE.out, ← hlt]; exact HO.out)
      clear hm hlt m0 HM
      rcases HF.out with ⟨rfl, h0⟩ | ⟨g, cap, rfl⟩
      · rw [h0] at m1
        clear h0
        go_wp2_with fail
        go_ret
        exact ⟨HB.out, _, rfl, HL.out⟩
      · generalize n + k = q at m1 HL ⊢
        go_wp2_with fail
        go_ret
        exact ⟨HB.out, _, rfl, HL.out⟩
    · have m0 : (n + k) % 16 ≠ 0 := fun h => hlt (hm.1 h)
      have m1 : (((n + k : Nat) : Int) % 16 != 0) = true := by simp; omega
      have hpos : n + k ≠ 0 := fun h => by rw [h] at m0; exact m0 rfl
      have HLT := Lib.hid hlt
      have HML := Lib.hid (show n + k + 1 ≤ maxLen by have := HK.out; unfold maxLen; omega)
      have HMB := Lib.hid (show (n + k + 1) * 1 ≤ 140737488355328 by have := HK.out; omega)
      rcases HF.out with ⟨rfl, h0⟩ | ⟨g, cap, rfl⟩
      · exact absurd h0 hpos
      · have HAL := Lib.hid (HO.out.alloc (.cells #[.int .u8 0] 5 (0, 0)))
        obtain ⟨q, hq⟩ : ∃ q, n + k = q := ⟨_, rfl⟩
        rw [hq] at m1 HML HMB HAL HO ⊢
        have HQ := Lib.hid hq
        clear hm hlt m0 hpos hq HM hZ15 hn5
        go_wp2_with (at_builtin; refine wpList_append_own _ rfl (.tmp 7) (.tmp 8) 37 rfl _ 5 i8 (.int .u8 0) 1 1 Try.underlying37 hj0 hy0 hy1 hy2 rfl (by decide) _ _ _ rfl HAL.out ⟨wr.heap.size, 0, none⟩ 1 1 [.int .u8 0] rfl rfl (one_cell wr _ _) (one_one _ rfl) HML.out HMB.out (le_alloc hs0 _) ?_)
        intro v1 w1 h1 h2 h3
        have HB1 := Lib.hid (below_app2 HB.out hs0 _ _ _ _ _ HO.out h2)
        have HO1 := Lib.hid (show w1.ownsRow base 5 1 v1 (n + (k + 1)) (vls (l ++ List.replicate (k + 1) 0)) from by rw [zeros_app, vls_app, ← Nat.add_assoc, HQ.out]; exact h1)
        have HLEN := Lib.hid (show lenA v1 = q + 1 from by
          obtain ⟨g, cap, e, _⟩ := h1.form (by omega)
          rw [e]; rfl)
        clear h1 h2 h3 hs0
        go_wp2_with fail
        go_roundw
        case rel => exact ⟨k + 1, by have := HLT.out; have := HK.out; omega, HO1.out, HB1.out⟩
        case measure => rw [HLEN.out]; show n + 16 - (q + 1) < n + 16 - q; have := HQ.out; have := HK.out; have := HZ.out; have := HLT.out; omega

/-- The bytes of a length, as they are appended. -/
theorem nbs_next (m j : Nat) : nbs (j + 1) m = nbs j m ++ [UInt8.ofNat (m / 256 ^ j % 256)] := by
  rw [nbs, dg_succ, List.map_append]; rfl

set_option maxRecDepth 100000 in
set_option maxHeartbeats 2000000 in
theorem size_any (base n m : Nat) (v : Value) (l : List UInt8) (w : World) (hbase : base ≤ w.heap.size) (hn : n ≤ 200000) (hm : m ≤ 100000) (ho : w.ownsRow base 5 1 v n (vls l)) :
    Calls Try.prog 58 #[v, .int .i64 m] w fun e w' => Below base w w' ∧ ∃ r, e = .returned r ∧ w'.ownsRow base 5 1 r (n + 8) (vls (l ++ nbs 8 m)) := by
  obtain ⟨i8, hj0, hy0, hy1, hy2⟩ : ∃ i, Try.prog.info? 5 = some i ∧ i.zero = some (.int .u8 0) ∧ i.size = 1 ∧ i.bytes = 1 := ⟨_, rfl, rfl, rfl, rfl⟩
  have HO0 := Lib.hid (show w.ownsRow base 5 1 v (n + 0) (vls (l ++ nbs 0 m)) from by rw [show nbs 0 m = [] from rfl, List.append_nil]; exact ho)
  have HB0 := Lib.hid (Below.refl base w)
  have HBASE := Lib.hid hbase
  have HN := Lib.hid hn
  have HNB := Lib.hid (nbs_next m)
  have m1 : (m : Int) ≤ 100000 := by omega
  have m0 : (0 : Int) ≤ (m : Int) := by omega
  clear ho hbase hn hm
  go_enter Try.func58, Try.ntmps58
  go_wp2_with fail
  go_loopw [0, 6] (fun x i wr => ∃ j : Nat, j ≤ 8 ∧ i = .int .i64 j ∧ wr.ownsRow base 5 1 x (n + j) (vls (l ++ nbs j m)) ∧ Below base w wr) (fun _ i _ => 8 - (intOf i).toNat)
  case atStart => exact ⟨0, by omega, rfl, HO0.out, HB0.out⟩
  case round =>
    obtain ⟨j, hj, rfl, ho, hb⟩ := hrel
    have HO := Lib.hid ho
    have HB := Lib.hid hb
    have hs0 : base ≤ wr.heap.size := Nat.le_trans HBASE.out hb.size
    clear ho hb HO0 HB0
    by_cases hlt : j < 8
    · have j1 : (j : Int) < 8 := by omega
      have j0 : (0 : Int) ≤ (j : Int) := by omega
      have HLT := Lib.hid hlt
      have r8 : j = 0 ∨ j = 1 ∨ j = 2 ∨ j = 3 ∨ j = 4 ∨ j = 5 ∨ j = 6 ∨ j = 7 := by omega
      have hx := dig_lt 256 (by decide) m j
      have HNX := Lib.hid (HNB.out j)
      obtain ⟨d, hd⟩ : ∃ d, m / 256 ^ j % 256 = d := ⟨_, rfl⟩
      rw [hd] at hx HNX
      have HD := Lib.hid hd
      have HVB := Lib.hid (show valB (UInt8.ofNat d) = .int .u8 (d : Int) by rw [valB, UInt8.toNat_ofNat', show d % 2 ^ 8 = d by omega])
      have HML := Lib.hid (show n + j + 1 ≤ maxLen by have := HN.out; unfold maxLen; omega)
      have HMB := Lib.hid (show (n + j + 1) * 1 ≤ 140737488355328 by have := HN.out; omega)
      have HAL := Lib.hid (HO.out.alloc (.cells #[.int .u8 (d : Int)] 5 (0, 0)))
      clear hlt hj hd hx
      rcases r8 with h8 | h8 | h8 | h8 | h8 | h8 | h8 | h8
      · have rk : (8 : Int) * (j : Int) = 0 := by omega
        have vb : (m : Int) % 256 = (d : Int) := by have := HD.out; rw [h8, show (256 : Nat) ^ 0 = 1 by decide] at this; omega
        clear h8
        go_wp2_with (at_builtin; refine wpList_append_own _ rfl (.tmp 9) (.tmp 16) 37 rfl _ 5 i8 (.int .u8 0) 1 1 Try.underlying37 hj0 hy0 hy1 hy2 rfl (by decide) _ _ _ rfl HAL.out ⟨wr.heap.size, 0, none⟩ 1 1 [.int .u8 (d : Int)] rfl rfl (one_cell wr _ _) (one_one _ rfl) HML.out HMB.out (le_alloc hs0 _) ?_)
        intro v1 w1 h1 h2 h3
        have HB1 := Lib.hid (below_app2 HB.out hs0 _ _ _ _ _ HO.out h2)
        have HO1 := Lib.hid (show w1.ownsRow base 5 1 v1 (n + (j + 1)) (vls (l ++ nbs (j + 1) m)) from by rw [HNX.out, ← List.append_assoc, vls_app, HVB.out, ← Nat.add_assoc]; exact h1)
        clear h1 h2 h3 hs0 vb
        go_wp2_with fail
        go_roundw
        case rel => exact ⟨j + 1, HLT.out, by go_num, HO1.out, HB1.out⟩
        case measure => simp [intOf]; have := HLT.out; omega
      · have rk : (8 : Int) * (j : Int) = 8 := by omega
        have vb : (m : Int) / 256 % 256 = (d : Int) := by have := HD.out; rw [h8, show (256 : Nat) ^ 1 = 256 by decide] at this; omega
        clear h8
        go_wp2_with (at_builtin; refine wpList_append_own _ rfl (.tmp 9) (.tmp 16) 37 rfl _ 5 i8 (.int .u8 0) 1 1 Try.underlying37 hj0 hy0 hy1 hy2 rfl (by decide) _ _ _ rfl HAL.out ⟨wr.heap.size, 0, none⟩ 1 1 [.int .u8 (d : Int)] rfl rfl (one_cell wr _ _) (one_one _ rfl) HML.out HMB.out (le_alloc hs0 _) ?_)
        intro v1 w1 h1 h2 h3
        have HB1 := Lib.hid (below_app2 HB.out hs0 _ _ _ _ _ HO.out h2)
        have HO1 := Lib.hid (show w1.ownsRow base 5 1 v1 (n + (j + 1)) (vls (l ++ nbs (j + 1) m)) from by rw [HNX.out, ← List.append_assoc, vls_app, HVB.out, ← Nat.add_assoc]; exact h1)
        clear h1 h2 h3 hs0 vb
        go_wp2_with fail
        go_roundw
        case rel => exact ⟨j + 1, HLT.out, by go_num, HO1.out, HB1.out⟩
        case measure => simp [intOf]; have := HLT.out; omega
      · have rk : (8 : Int) * (j : Int) = 16 := by omega
        have vb : (m : Int) / 65536 = (d : Int) := by have := HD.out; rw [h8, show (256 : Nat) ^ 2 = 65536 by decide] at this; omega
        clear h8
        go_wp2_with (at_builtin; refine wpList_append_own _ rfl (.tmp 9) (.tmp 16) 37 rfl _ 5 i8 (.int .u8 0) 1 1 Try.underlying37 hj0 hy0 hy1 hy2 rfl (by decide) _ _ _ rfl HAL.out ⟨wr.heap.size, 0, none⟩ 1 1 [.int .u8 (d : Int)] rfl rfl (one_cell wr _ _) (one_one _ rfl) HML.out HMB.out (le_alloc hs0 _) ?_)
        intro v1 w1 h1 h2 h3
        have HB1 := Lib.hid (below_app2 HB.out hs0 _ _ _ _ _ HO.out h2)
        have HO1 := Lib.hid (show w1.ownsRow base 5 1 v1 (n + (j + 1)) (vls (l ++ nbs (j + 1) m)) from by rw [HNX.out, ← List.append_assoc, vls_app, HVB.out, ← Nat.add_assoc]; exact h1)
        clear h1 h2 h3 hs0 vb
        go_wp2_with fail
        go_roundw
        case rel => exact ⟨j + 1, HLT.out, by go_num, HO1.out, HB1.out⟩
        case measure => simp [intOf]; have := HLT.out; omega
      · have rk : (8 : Int) * (j : Int) = 24 := by omega
        have vb : (m : Int) / 16777216 = (d : Int) := by have := HD.out; rw [h8, show (256 : Nat) ^ 3 = 16777216 by decide] at this; omega
        clear h8
        go_wp2_with (at_builtin; refine wpList_append_own _ rfl (.tmp 9) (.tmp 16) 37 rfl _ 5 i8 (.int .u8 0) 1 1 Try.underlying37 hj0 hy0 hy1 hy2 rfl (by decide) _ _ _ rfl HAL.out ⟨wr.heap.size, 0, none⟩ 1 1 [.int .u8 (d : Int)] rfl rfl (one_cell wr _ _) (one_one _ rfl) HML.out HMB.out (le_alloc hs0 _) ?_)
        intro v1 w1 h1 h2 h3
        have HB1 := Lib.hid (below_app2 HB.out hs0 _ _ _ _ _ HO.out h2)
        have HO1 := Lib.hid (show w1.ownsRow base 5 1 v1 (n + (j + 1)) (vls (l ++ nbs (j + 1) m)) from by rw [HNX.out, ← List.append_assoc, vls_app, HVB.out, ← Nat.add_assoc]; exact h1)
        clear h1 h2 h3 hs0 vb
        go_wp2_with fail
        go_roundw
        case rel => exact ⟨j + 1, HLT.out, by go_num, HO1.out, HB1.out⟩
        case measure => simp [intOf]; have := HLT.out; omega
      · have rk : (8 : Int) * (j : Int) = 32 := by omega
        have vb : (m : Int) / 4294967296 = (d : Int) := by have := HD.out; rw [h8, show (256 : Nat) ^ 4 = 4294967296 by decide] at this; omega
        clear h8
        go_wp2_with (at_builtin; refine wpList_append_own _ rfl (.tmp 9) (.tmp 16) 37 rfl _ 5 i8 (.int .u8 0) 1 1 Try.underlying37 hj0 hy0 hy1 hy2 rfl (by decide) _ _ _ rfl HAL.out ⟨wr.heap.size, 0, none⟩ 1 1 [.int .u8 (d : Int)] rfl rfl (one_cell wr _ _) (one_one _ rfl) HML.out HMB.out (le_alloc hs0 _) ?_)
        intro v1 w1 h1 h2 h3
        have HB1 := Lib.hid (below_app2 HB.out hs0 _ _ _ _ _ HO.out h2)
        have HO1 := Lib.hid (show w1.ownsRow base 5 1 v1 (n + (j + 1)) (vls (l ++ nbs (j + 1) m)) from by rw [HNX.out, ← List.append_assoc, vls_app, HVB.out, ← Nat.add_assoc]; exact h1)
        clear h1 h2 h3 hs0 vb
        go_wp2_with fail
        go_roundw
        case rel => exact ⟨j + 1, HLT.out, by go_num, HO1.out, HB1.out⟩
        case measure => simp [intOf]; have := HLT.out; omega
      · have rk : (8 : Int) * (j : Int) = 40 := by omega
        have vb : (m : Int) / 1099511627776 = (d : Int) := by have := HD.out; rw [h8, show (256 : Nat) ^ 5 = 1099511627776 by decide] at this; omega
        clear h8
        go_wp2_with (at_builtin; refine wpList_append_own _ rfl (.tmp 9) (.tmp 16) 37 rfl _ 5 i8 (.int .u8 0) 1 1 Try.underlying37 hj0 hy0 hy1 hy2 rfl (by decide) _ _ _ rfl HAL.out ⟨wr.heap.size, 0, none⟩ 1 1 [.int .u8 (d : Int)] rfl rfl (one_cell wr _ _) (one_one _ rfl) HML.out HMB.out (le_alloc hs0 _) ?_)
        intro v1 w1 h1 h2 h3
        have HB1 := Lib.hid (below_app2 HB.out hs0 _ _ _ _ _ HO.out h2)
        have HO1 := Lib.hid (show w1.ownsRow base 5 1 v1 (n + (j + 1)) (vls (l ++ nbs (j + 1) m)) from by rw [HNX.out, ← List.append_assoc, vls_app, HVB.out, ← Nat.add_assoc]; exact h1)
        clear h1 h2 h3 hs0 vb
        go_wp2_with fail
        go_roundw
        case rel => exact ⟨j + 1, HLT.out, by go_num, HO1.out, HB1.out⟩
        case measure => simp [intOf]; have := HLT.out; omega
      · have rk : (8 : Int) * (j : Int) = 48 := by omega
        have vb : (m : Int) / 281474976710656 = (d : Int) := by have := HD.out; rw [h8, show (256 : Nat) ^ 6 = 281474976710656 by decide] at this; omega
        clear h8
        go_wp2_with (at_builtin; refine wpList_append_own _ rfl (.tmp 9) (.tmp 16) 37 rfl _ 5 i8 (.int .u8 0) 1 1 Try.underlying37 hj0 hy0 hy1 hy2 rfl (by decide) _ _ _ rfl HAL.out ⟨wr.heap.size, 0, none⟩ 1 1 [.int .u8 (d : Int)] rfl rfl (one_cell wr _ _) (one_one _ rfl) HML.out HMB.out (le_alloc hs0 _) ?_)
        intro v1 w1 h1 h2 h3
        have HB1 := Lib.hid (below_app2 HB.out hs0 _ _ _ _ _ HO.out h2)
        have HO1 := Lib.hid (show w1.ownsRow base 5 1 v1 (n + (j + 1)) (vls (l ++ nbs (j + 1) m)) from by rw [HNX.out, ← List.append_assoc, vls_app, HVB.out, ← Nat.add_assoc]; exact h1)
        clear h1 h2 h3 hs0 vb
        go_wp2_with fail
        go_roundw
        case rel => exact ⟨j + 1, HLT.out, by go_num, HO1.out, HB1.out⟩
        case measure => simp [intOf]; have := HLT.out; omega
      · have rk : (8 : Int) * (j : Int) = 56 := by omega
        have vb : (m : Int) / 72057594037927936 = (d : Int) := by have := HD.out; rw [h8, show (256 : Nat) ^ 7 = 72057594037927936 by decide] at this; omega
        clear h8
        go_wp2_with (at_builtin; refine wpList_append_own _ rfl (.tmp 9) (.tmp 16) 37 rfl _ 5 i8 (.int .u8 0) 1 1 Try.underlying37 hj0 hy0 hy1 hy2 rfl (by decide) _ _ _ rfl HAL.out ⟨wr.heap.size, 0, none⟩ 1 1 [.int .u8 (d : Int)] rfl rfl (one_cell wr _ _) (one_one _ rfl) HML.out HMB.out (le_alloc hs0 _) ?_)
        intro v1 w1 h1 h2 h3
        have HB1 := Lib.hid (below_app2 HB.out hs0 _ _ _ _ _ HO.out h2)
        have HO1 := Lib.hid (show w1.ownsRow base 5 1 v1 (n + (j + 1)) (vls (l ++ nbs (j + 1) m)) from by rw [HNX.out, ← List.append_assoc, vls_app, HVB.out, ← Nat.add_assoc]; exact h1)
        clear h1 h2 h3 hs0 vb
        go_wp2_with fail
        go_roundw
        case rel => exact ⟨j + 1, HLT.out, by go_num, HO1.out, HB1.out⟩
        case measure => simp [intOf]; have := HLT.out; omega
    · have j1 : ¬ (j : Int) < 8 := by omega
      have hj8 : j = 8 := by omega
      subst hj8
      clear hlt hj
      rcases own_form HO.out with ⟨_, h0⟩ | ⟨g, cap, rfl⟩
      · exact absurd h0 (by omega)
      · go_wp2_with fail
        go_ret
        exact ⟨HB.out, _, rfl, HO.out⟩
end Go.Proofs.Ytkfacnegfkgcgaa

/-
  aead.tag: the walk.
-/
namespace Go.Proofs.Ytkfacnegfkgcgaa
open Go.RowKit MS

theorem wpList_make_cap {w : World} {ops : Array Oper} {rest : List Oper} {o : Oper} {a : Act} {Q : Exit → Act → World → Prop} (hgd : o.guard = none) (x y : Operand) (ho : o.op = .makeSlice 37 x y) (N : Nat) (yi : Int)
    (hx : a.eval x = .int .i64 0) (hy : a.eval y = .int .i64 yi) (hyN : yi = N) (hN : N ≤ 1000000)
    (h : ∀ w', w'.ownsRow w.heap.size 5 1 (.slice (some ⟨w.heap.size, 0, none⟩) 0 N) 0 (vls []) → Below w.heap.size w w' → wpList Try.prog ops Q rest (a.put o.dst (.slice (some ⟨w.heap.size, 0, none⟩) 0 N)) w') : wpList Try.prog ops Q (o :: rest) a w := by
  subst hyN
  refine wpList_plain hgd fun K hK => ?_
  obtain ⟨i8, hj0, hy0, hy1, hy2⟩ : ∃ i, Try.prog.info? 5 = some i ∧ i.zero = some (.int .u8 0) ∧ i.size = 1 ∧ i.bytes = 1 := ⟨_, rfl, rfl, rfl, rfl⟩
  have hrun := run_make (P := Try.prog) w 37 5 i8 (.int .u8 0) Try.underlying37 hj0 hy0 .i64 .i64 (0 : Int) (N : Int) (by omega) (by omega) (by rw [hy2]; omega) (by omega)
  rw [hy1] at hrun
  simp only [Int.toNat_natCast, Int.toNat_zero, Nat.mul_one] at hrun
  have hz : madeCells (Value.int .u8 0).cells N = (vls (List.replicate N 0)).toArray := by
    apply Array.toList_inj.1
    exact made_u8 N
  rw [hz] at hrun
  have h' := h (w.alloc (.cells (vls (List.replicate N 0)).toArray 5 (0, 0)))
    ⟨rfl, .inr ⟨w.heap.size, N, _, rfl, Nat.le_refl _, (MapKept.heap_alloc w _).1, Nat.zero_le _, by unfold maxLen; omega, by simp [vls], rfl⟩⟩ ((Below.refl _ _).alloc (Nat.le_refl _) _)
  unfold Oper.wp execOp
  simp only [ho, hx, hy, Sem.run_bind, Sem.run_pure, Result.andThen_ok, hrun]
  exact hK _ _ h'
theorem below_app3 {w0 wr w' : World} {base : Nat} (hb : Below base w0 wr) (hbase : base ≤ wr.heap.size) (v : Value) (n : Nat) (e : TypeId) (xs : List Value) (ho : wr.ownsRow base e 1 v n xs) (hg : wr.grownBy w' v.ownBlock) : Below base w0 w' :=
  hb.grown hg hbase (fun m hm => (ho.lt m hm).1)
theorem alZ_add (a b : Nat) (h : a % 16 = 0) : alZ (a + b) = alZ b := by unfold alZ; omega
theorem wv0 : wv 0 = 0 := rfl
theorem wv1 : wv 1 = 1 := rfl

theorem atag_no (k n wi text : ByteArray) (w : World) (h : k.size ≠ 32 ∨ n.size ≠ 12) :
    Calls Try.prog 48 #[.string k, .string n, .string wi, .string text] w fun e w' => e = .returned (.tuple #[.string ⟨#[]⟩, .bool false]) ∧ Below w.heap.size w w' := by
  have B := Lib.hid (fun w => block_no k n 0 h w)
  clear h
  go_enter Try.func48, Try.ntmps48
  go_wp2_with fail
  refine (B.out _).mono ?_
  rintro e w1 ⟨rfl, hb1⟩
  go_wp2_with fail
  go_ret2
  exact ⟨rfl, hb1⟩

set_option maxRecDepth 100000 in
set_option maxHeartbeats 2000000 in
theorem atag_yes (k n wi text : ByteArray) (w : World) (hk : k.size = 32) (hn : n.size = 12) (hwi : wi.size ≤ 20000) (htx : text.size ≤ 20000) :
    Calls Try.prog 48 #[.string k, .string n, .string wi, .string text] w fun e w' => e = .returned (.tuple #[.string (tagA k n wi text), .bool true]) ∧ Below w.heap.size w w' := by
  have B := Lib.hid (fun w => block_yes k n 0 w hk hn)
  rw [wv0] at B
  have lw := length_ls wi
  have lt := length_ls text
  have hT : (tagL (ls wi) (ls text)).length = wi.size + alZ wi.size + (text.size + alZ text.size) + 16 := by
    rw [tagL, List.length_append, List.length_append, List.length_append, length_alignL, length_alignL, length_nbs, length_nbs, lw, lt]
  have hz1 := alZ_le wi.size
  have hz2 := alZ_le text.size
  have PT := Lib.hid (fun w => tag_yes ((blkB (iw k n 0)).extract 0 32) (bs (tagL (ls wi) (ls text))) w (by rw [ByteArray.size_extract, size_blkB]; rfl) (by rw [size_bs, hT]; omega))
  have HTA := Lib.hid (show tagA k n wi text = tagB ((blkB (iw k n 0)).extract 0 32) (bs (tagL (ls wi) (ls text))) from rfl)
  rw [← HTA.out] at PT
  have hbz : ((blkB (iw k n 0)).size : Int) = 64 := by rw [size_blkB]; rfl
  generalize tagA k n wi text = R at *
  generalize blkB (iw k n 0) = bk at *
  have HT := Lib.hid hT
  have HAM := Lib.hid (align_mod (ls wi))
  have HAA := Lib.hid (fun h => align_app (alignL (ls wi)) (ls text) h)
  have HAL := Lib.hid (length_alignL (ls wi))
  have HTL := Lib.hid (show tagL (ls wi) (ls text) = alignL (ls wi) ++ alignL (ls text) ++ nbs 8 wi.size ++ nbs 8 text.size from by rw [tagL, lw, lt])
  have HLW := Lib.hid lw
  have HLT := Lib.hid lt
  have HWI := Lib.hid hwi
  have HTX := Lib.hid htx
  have HZ1 := Lib.hid hz1
  have HZ2 := Lib.hid hz2
  have s1 : (wi.size : Int) ≤ 20000 := by omega
  have s2 : (text.size : Int) ≤ 20000 := by omega
  obtain ⟨N, hN⟩ : ∃ N, wi.size + text.size + 48 = N := ⟨_, rfl⟩
  have qN : (wi.size : Int) + (text.size : Int) + 48 = (N : Int) := by omega
  have HN := Lib.hid (show N ≤ 1000000 by omega)
  clear hk hn lw lt hT hz1 hz2 hwi htx HTA hN
  go_enter Try.func48, Try.ntmps48
  go_wp2_with fail
  refine (B.out _).mono ?_
  rintro e w1 ⟨rfl, hb1⟩
  have B1 := Lib.hid hb1
  clear hb1 B
  go_wp2_with (with_reducible refine wpList_make_cap rfl (.const (.int .i64 0)) (.tmp 26) rfl N (N : Int) rfl rfl rfl HN.out ?_)
  intro w2 ho2 hb2
  have HO2 := Lib.hid ho2
  have B2 := Lib.hid (B1.out.trans (hb2.mono B1.out.size))
  have HS2 := Lib.hid hb2.size
  generalize hg : w1.heap.size = g at *
  have HGW := Lib.hid (show w.heap.size ≤ g by rw [← hg]; exact B1.out.size)
  clear ho2 hb2 hg qN
  have HH1 := Lib.hid (show 0 + wi.size ≤ 1000000 by have := HWI.out; omega)
  go_wp2_with (with_reducible refine wpList_append_strP rfl (.tmp 28) (.tmp 29) rfl g (.slice (some ⟨g, 0, none⟩) 0 N) 0 [] rfl HO2.out wi rfl HH1.out HS2.out ?_)
  intro v3 w3 h1 h2
  have h1 : w3.ownsRow g 5 1 v3 wi.size (vls (ls wi)) := by simpa using h1
  have B3 := Lib.hid (B2.out.trans ((below_app3 (Below.refl g w2) HS2.out _ _ _ _ HO2.out h2).mono HGW.out))
  have HS3 := Lib.hid (Nat.le_trans HS2.out h2.size)
  have HO3 := Lib.hid h1
  clear h1 h2
  go_wp2_with fail
  refine (align_any g wi.size v3 (ls wi) _ HS3.out HLW.out (by have := HWI.out; omega) HO3.out).mono ?_
  rintro e w4 ⟨hb4, r4, rfl, ho4⟩
  have B4 := Lib.hid (B3.out.trans (hb4.mono HGW.out))
  have HS4 := Lib.hid (Nat.le_trans HS3.out hb4.size)
  have HO4 := Lib.hid ho4
  obtain ⟨al, hal⟩ : ∃ al, wi.size + alZ wi.size = al := ⟨_, rfl⟩
  rw [hal] at HO4 ho4
  have HALE := Lib.hid hal
  have HALB := Lib.hid (show al ≤ 20015 by rw [← hal]; have := HWI.out; have := HZ1.out; omega)
  clear hb4 HO2 B2 HS2 B3 HS3
  have HF4 := Lib.hid (own_form ho4)
  have HH2 := Lib.hid (show al + text.size ≤ 1000000 by have := HALB.out; have := HTX.out; omega)
  clear ho4 hal
  go_wp2_with (with_reducible refine wpList_append_strP rfl (.tmp 32) (.tmp 33) rfl g r4 al (alignL (ls wi)) rfl HO4.out text rfl HH2.out HS4.out ?_)
  intro v5 w5 h1 h2
  have B5 := Lib.hid (B4.out.trans ((below_app3 (Below.refl g w4) HS4.out _ _ _ _ HO4.out h2).mono HGW.out))
  have HS5 := Lib.hid (Nat.le_trans HS4.out h2.size)
  have HL5 := Lib.hid (show (alignL (ls wi) ++ ls text).length = al + text.size by rw [List.length_append, HAL.out, HLW.out, HLT.out, HALE.out])
  have HO5 := Lib.hid h1
  clear h1 h2
  go_wp2_with fail
  refine (align_any g (al + text.size) v5 (alignL (ls wi) ++ ls text) _ HS5.out HL5.out (by have := HALB.out; have := HTX.out; omega) HO5.out).mono ?_
  rintro e w6 ⟨hb6, r6, rfl, ho6⟩
  rw [HAA.out HAM.out, alZ_add al text.size (by have := HAM.out; rw [HAL.out, HLW.out, HALE.out] at this; exact this)] at ho6
  have B6 := Lib.hid (B5.out.trans (hb6.mono HGW.out))
  have HS6 := Lib.hid (Nat.le_trans HS5.out hb6.size)
  obtain ⟨q, hq⟩ : ∃ q, al + text.size + alZ text.size = q := ⟨_, rfl⟩
  rw [hq] at ho6
  have HO6 := Lib.hid ho6
  have HQ := Lib.hid hq
  have HQB := Lib.hid (show q ≤ 60000 by rw [← hq]; have := HALB.out; have := HTX.out; have := HZ2.out; omega)
  clear hb6 ho6 hq HO4 B4 HS4 B5 HS5 HF4
  go_wp2_with fail
  refine (size_any g q wi.size r6 (alignL (ls wi) ++ alignL (ls text)) _ HS6.out (by have := HQB.out; omega) (by have := HWI.out; omega) HO6.out).mono ?_
  rintro e w7 ⟨hb7, r7, rfl, ho7⟩
  have B7 := Lib.hid (B6.out.trans (hb7.mono HGW.out))
  have HS7 := Lib.hid (Nat.le_trans HS6.out hb7.size)
  have HO7 := Lib.hid ho7
  clear hb7 ho7 HO6 B6 HS6
  go_wp2_with fail
  refine (size_any g (q + 8) text.size r7 _ _ HS7.out (by have := HQB.out; omega) (by have := HTX.out; omega) HO7.out).mono ?_
  rintro e w8 ⟨hb8, r8, rfl, ho8⟩
  rw [← HTL.out] at ho8
  have B8 := Lib.hid (B7.out.trans (hb8.mono HGW.out))
  obtain ⟨g8, c8, rfl, -, -⟩ := ho8.form (by omega)
  have HL8 := Lib.hid (show (tagL (ls wi) (ls text)).length = q + 8 + 8 by rw [HT.out, ← HQ.out, ← HALE.out]; omega)
  have HO8 := Lib.hid ho8
  clear hb8 ho8 HO7 B7 HS7
  generalize tagL (ls wi) (ls text) = TL at *
  generalize q + 8 + 8 = q8 at *
  go_upto_region 9 with fail
  have hcv : ∀ p : BW w8, (convert 37 9 (.slice (some ⟨g8, 0, none⟩) q8 c8)).run Try.prog p.1 = .ok (.string (bs TL)) p.1 := fun p => conv_out TL q8 HL8.out (ownsRow_on HO8.out p.2)
  obtain ⟨W8, rfl⟩ : ∃ W8 : World, W8 = w8 := ⟨_, rfl⟩
  refine wp_region_below (by kernel_rfl) (by kernel_rfl) ?_
  repeat (go_big_quiet_step (fail))
  go_big_quiet_step (exact calls_below (PT.out _))
  repeat (go_big_quiet_step (fail))
  refine wpQuiet_nil ?_
  rintro _ ⟨p, rfl⟩
  have B9 := Lib.hid (B8.out.trans (p.2.mono B8.out.size))
  clear hcv
  generalize p.1 = w9 at B9 ⊢
  go_wp2_with fail
  go_ret2
  exact ⟨rfl, B9.out⟩
end Go.Proofs.Ytkfacnegfkgcgaa

/-
  aead.Seal, aead.Open: the walks.
-/
namespace Go.Proofs.Ytkfacnegfkgcgaa
open Go.RowKit MS

theorem aseal_no (k n wi s : ByteArray) (w : World) (h : k.size ≠ 32 ∨ n.size ≠ 12) :
    Calls Try.prog 29 #[.string k, .string n, .string wi, .string s] w fun e w' => e = .returned (.tuple #[.string ⟨#[]⟩, .int .i64 1]) ∧ Below w.heap.size w w' := by
  have B := Lib.hid (fun w => turn_no k n 1 s h w)
  clear h
  go_enter Try.func29, Try.ntmps29
  go_wp2_with fail
  refine (B.out _).mono ?_
  rintro e w1 ⟨rfl, hb1⟩
  go_wp2_with fail
  go_ret2
  exact ⟨rfl, hb1⟩

set_option maxRecDepth 100000 in
set_option maxHeartbeats 1000000 in
theorem aseal_yes (k n wi s : ByteArray) (w : World) (hk : k.size = 32) (hn : n.size = 12) (hwi : wi.size ≤ 20000) (hs : s.size ≤ 20000) :
    Calls Try.prog 29 #[.string k, .string n, .string wi, .string s] w fun e w' => e = .returned (.tuple #[.string (sealA k n wi s), .int .i64 0]) ∧ Below w.heap.size w w' := by
  have T := Lib.hid (fun w => turn_yes k n 1 s w hk hn)
  rw [wv1, show bs (trn (ls s) (ks k n 1)) = trnA k n s from rfl] at T
  have G := Lib.hid (fun w => atag_yes k n wi (trnA k n s) w hk hn hwi (by rw [size_trnA]; exact hs))
  have HS := Lib.hid (show sealA k n wi s = trnA k n s ++ tagA k n wi (trnA k n s) from rfl)
  have s1 : ((tagA k n wi (trnA k n s)).size : Int) = 16 := by rw [size_tagA]; rfl
  have s2 : ((trnA k n s).size : Int) ≤ 20000 := by rw [size_trnA]; omega
  rw [HS.out]
  generalize tagA k n wi (trnA k n s) = t at *
  generalize trnA k n s = x at *
  clear hk hn hwi hs HS
  go_enter Try.func29, Try.ntmps29
  go_wp2_with fail
  refine (T.out _).mono ?_
  rintro e w1 ⟨rfl, hb1⟩
  have B1 := Lib.hid hb1
  clear hb1
  go_wp2_with fail
  refine (G.out _).mono ?_
  rintro e w2 ⟨rfl, hb2⟩
  have B2 := Lib.hid (B1.out.trans (hb2.mono B1.out.size))
  clear hb2
  go_wp2_with fail
  go_ret2
  exact ⟨rfl, B2.out⟩

set_option maxRecDepth 100000 in
set_option maxHeartbeats 1000000 in
theorem aopen_no (k n wi box : ByteArray) (w : World) (h : k.size ≠ 32 ∨ n.size ≠ 12) :
    Calls Try.prog 31 #[.string k, .string n, .string wi, .string box] w fun e w' => e = .returned (.tuple #[.string ⟨#[]⟩, .int .i64 1]) ∧ Below w.heap.size w w' := by
  by_cases h1 : k.size = 32
  · have t1 : ((k.size : Int) != 32) = false := by simp; omega
    have t2 : ((n.size : Int) != 12) = true := by simp; omega
    clear h h1
    go_enter Try.func31, Try.ntmps31
    go_wp2_with fail
    go_ret2
    exact ⟨rfl, Below.refl _ _⟩
  · have t1 : ((k.size : Int) != 32) = true := by simp; omega
    clear h h1
    go_enter Try.func31, Try.ntmps31
    go_wp2_with fail
    go_ret2
    exact ⟨rfl, Below.refl _ _⟩

/-- What Open hands back. -/
def openV (o : Option ByteArray) : Value := match o with
  | some s => .tuple #[.string s, .int .i64 0]
  | none => .tuple #[.string ⟨#[]⟩, .int .i64 7]

set_option maxRecDepth 100000 in
set_option maxHeartbeats 2000000 in
theorem aopen_any (k n wi box : ByteArray) (w : World) (hk : k.size = 32) (hn : n.size = 12) (hwi : wi.size ≤ 20000) (hs : box.size ≤ 20000) :
    Calls Try.prog 31 #[.string k, .string n, .string wi, .string box] w fun e w' => e = .returned (openV (openA k n wi box)) ∧ Below w.heap.size w w' := by
  have t1 : ((k.size : Int) != 32) = false := by simp; omega
  have t2 : ((n.size : Int) != 12) = false := by simp; omega
  by_cases h16 : box.size < 16
  · have HO := Lib.hid (show openV (openA k n wi box) = .tuple #[.string ⟨#[]⟩, .int .i64 7] by rw [openA, if_pos h16]; rfl)
    have q1 : (box.size : Int) < 16 := by omega
    rw [HO.out]
    clear hk hn hwi hs h16
    go_enter Try.func31, Try.ntmps31
    go_wp2_with fail
    go_ret2
    exact ⟨rfl, Below.refl _ _⟩
  · have q1 : ¬ (box.size : Int) < 16 := by omega
    have HO := Lib.hid (show openA k n wi box = if tagA k n wi (box.extract 0 (box.size - 16)) = box.extract (box.size - 16) box.size then some (trnA k n (box.extract 0 (box.size - 16))) else none by rw [openA, if_neg h16])
    obtain ⟨m, hm⟩ : ∃ m, box.size - 16 = m := ⟨_, rfl⟩
    rw [hm] at HO
    have hx : (box.extract 0 m).size = m := by rw [ByteArray.size_extract]; omega
    have T := Lib.hid (fun w => turn_yes k n 1 (box.extract 0 m) w hk hn)
    rw [wv1, show bs (trn (ls (box.extract 0 m)) (ks k n 1)) = trnA k n (box.extract 0 m) from rfl] at T
    have G := Lib.hid (fun w => atag_yes k n wi (box.extract 0 m) w hk hn hwi (by omega))
    have S := Lib.hid (fun w => same_any (tagA k n wi (box.extract 0 m)) (box.extract m box.size) w (by rw [size_tagA]; decide))
    have e1 : IntKind.i64.wrap ((box.size : Int) - 16) = (m : Int) := by rw [IntWalk.i64_in _ (by omega)]; omega
    have e2 : (0 : Int) ≤ (m : Int) := by omega
    have e3 : (m : Int) ≤ (box.size : Int) := by omega
    have e4 : (box.size : Int) ≤ 20000 := by omega
    generalize trnA k n (box.extract 0 m) = x at *
    clear hk hn hwi hs h16 hm hx
    go_enter Try.func31, Try.ntmps31
    go_upto_region 5 with fail
    go_quiet (fail)
    have HB0 := Lib.hid (below_drewN (Below.refl w.heap.size w) nq)
    generalize w.drewN nq = w0 at HB0 ⊢
    clear e1
    go_wp2_with fail
    refine (G.out _).mono ?_
    rintro e w1 ⟨rfl, hb1⟩
    have B1 := Lib.hid (HB0.out.trans (hb1.mono HB0.out.size))
    clear hb1
    go_wp2_with fail
    refine (S.out _).mono ?_
    rintro e w2 ⟨rfl, hb2⟩
    have B2 := Lib.hid (B1.out.trans (hb2.mono B1.out.size))
    clear hb2
    by_cases ht : tagA k n wi (box.extract 0 m) = box.extract m box.size
    · rw [decide_eq_true ht]
      have HO2 := Lib.hid (show openV (openA k n wi box) = .tuple #[.string x, .int .i64 0] by rw [HO.out, if_pos ht]; rfl)
      clear ht
      go_wp2_with fail
      refine (T.out _).mono ?_
      rintro e w3 ⟨rfl, hb3⟩
      have B3 := Lib.hid (B2.out.trans (hb3.mono B2.out.size))
      clear hb3
      go_wp2_with fail
      go_ret2
      exact ⟨by rw [HO2.out]; rfl, B3.out⟩
    · rw [decide_eq_false ht]
      have HO2 := Lib.hid (show openV (openA k n wi box) = .tuple #[.string ⟨#[]⟩, .int .i64 7] by rw [HO.out, if_neg ht]; rfl)
      clear ht
      go_wp2_with fail
      go_ret2
      exact ⟨by rw [HO2.out]; rfl, B2.out⟩
end Go.Proofs.Ytkfacnegfkgcgaa
