/-
  poly.word, poly.split, poly.clamp: the walks.
-/
import Derived.Test.YtkfacnegfkgcgaaPolS
import Derived.Test.YtkfacnegfkgcgaaUtil
import Derived.Test.YtkfacnegfkgcgaaBQ
import Derived.Test.YtkfacnegfkgcgaaOwn2
import Derived.Deep.DeepCutAuto
namespace Go.Proofs.Ytkfacnegfkgcgaa
open Go.RowKit MS

/-- A number's five cells. -/
def lvA (x : L5) : Array Value := rowF (getL x)
theorem ext4P (s : ByteArray) (j : Nat) (h : j + 4 ≤ s.size) : s.extract j (j + 4) = ByteArray.mk #[(ls s).getD j 0, (ls s).getD (j + 1) 0, (ls s).getD (j + 2) 0, (ls s).getD (j + 3) 0] := by
  apply ls_inj
  rw [ls_extract]
  have hl := length_ls s
  show ((ls s).drop j).take (j + 4 - j) = [_, _, _, _]
  generalize ls s = l at hl
  rw [show j + 4 - j = 4 by omega]
  apply List.ext_getElem
  · simp; omega
  · intro i h1 h2
    simp at h1
    have h4 : i < 4 := by omega
    have hi : j + i < l.length := by omega
    match i, h4 with
    | 0, _ => simp [show j < l.length by omega]
    | 1, _ => simp [show j + 1 < l.length by omega]
    | 2, _ => simp [show j + 2 < l.length by omega]
    | 3, _ => simp [show j + 3 < l.length by omega]

theorem wr64 (n : Nat) (h : n < 18446744073709551616) : IntKind.u64.wrap (n : Int) = ((n : Nat) : Int) := by
  rw [IntKind.wrap_u64]
  omega
theorem or_mulP (a b k : Nat) (h : a < 2 ^ k) : a ||| b * 2 ^ k = b * 2 ^ k + a := by
  rw [Nat.or_comm, ← Nat.shiftLeft_eq, Nat.shiftLeft_add_eq_or_of_lt h]
theorem le_or4u (x0 x1 x2 x3 : UInt8) (h0 : 0 < (ByteArray.mk #[x0, x1, x2, x3]).size) (h1 : 1 < (ByteArray.mk #[x0, x1, x2, x3]).size) (h2 : 2 < (ByteArray.mk #[x0, x1, x2, x3]).size) (h3 : 3 < (ByteArray.mk #[x0, x1, x2, x3]).size) :
    bits .or .u64 (bits .or .u64 (bits .or .u64 (IntKind.u64.wrap (((ByteArray.mk #[x0, x1, x2, x3])[0]'h0).toNat : Int)) (IntKind.u64.wrap (IntKind.u64.wrap (((ByteArray.mk #[x0, x1, x2, x3])[1]'h1).toNat : Int) * 256))) (IntKind.u64.wrap (IntKind.u64.wrap (((ByteArray.mk #[x0, x1, x2, x3])[2]'h2).toNat : Int) * 65536))) (IntKind.u64.wrap (IntKind.u64.wrap (((ByteArray.mk #[x0, x1, x2, x3])[3]'h3).toNat : Int) * 16777216))
      = ((leb [x0, x1, x2, x3] : Nat) : Int) := by
  have e0 : ((ByteArray.mk #[x0, x1, x2, x3])[0]'h0) = x0 := rfl
  have e1 : ((ByteArray.mk #[x0, x1, x2, x3])[1]'h1) = x1 := rfl
  have e2 : ((ByteArray.mk #[x0, x1, x2, x3])[2]'h2) = x2 := rfl
  have e3 : ((ByteArray.mk #[x0, x1, x2, x3])[3]'h3) = x3 := rfl
  rw [e0, e1, e2, e3]
  have b0 := x0.toNat_lt
  have b1 := x1.toNat_lt
  have b2 := x2.toNat_lt
  have b3 := x3.toNat_lt
  have hle : leb [x0, x1, x2, x3] = x3.toNat * 16777216 + (x2.toNat * 65536 + (x1.toNat * 256 + x0.toNat)) := by
    simp only [leb]; omega
  rw [hle]
  generalize x0.toNat = a at *
  generalize x1.toNat = b at *
  generalize x2.toNat = c at *
  generalize x3.toNat = d at *
  have w1 : IntKind.u64.wrap ((b : Int)) = ((b : Nat) : Int) := wr64 b (by omega)
  have w2 : IntKind.u64.wrap ((c : Int)) = ((c : Nat) : Int) := wr64 c (by omega)
  have w3 : IntKind.u64.wrap ((d : Int)) = ((d : Nat) : Int) := wr64 d (by omega)
  have w0 : IntKind.u64.wrap ((a : Int)) = ((a : Nat) : Int) := wr64 a (by omega)
  have v1 : IntKind.u64.wrap ((b : Int) * 256) = ((b * 256 : Nat) : Int) := wr64 (b * 256) (by omega)
  have v2 : IntKind.u64.wrap ((c : Int) * 65536) = ((c * 65536 : Nat) : Int) := wr64 (c * 65536) (by omega)
  have v3 : IntKind.u64.wrap ((d : Int) * 16777216) = ((d * 16777216 : Nat) : Int) := wr64 (d * 16777216) (by omega)
  rw [w1, w2, w3, w0, v1, v2, v3, u64_or_nat _ _ (by omega) (by omega), or_mulP a b 8 (by omega), u64_or_nat _ _ (by omega) (by omega), or_mulP (b * 256 + a) c 16 (by omega), u64_or_nat _ _ (by omega) (by omega), or_mulP _ d 24 (by omega)]

set_option maxRecDepth 100000 in
set_option maxHeartbeats 1000000 in
theorem word_any (s : ByteArray) (i : Nat) (w : World) (h : i + 4 ≤ s.size) (hs : s.size ≤ 1000) :
    Calls Try.prog 54 #[.string s, .int .i64 i] w fun e w' => e = .returned (.int .u64 ((leb (((ls s).drop i).take 4) : Nat) : Int)) ∧ Below w.heap.size w w' := by
  have hE := ext4P s i h
  have HL : ((ls s).drop i).take 4 = [(ls s).getD i 0, (ls s).getD (i + 1) 0, (ls s).getD (i + 2) 0, (ls s).getD (i + 3) 0] := by
    have := congrArg ls hE
    rw [ls_extract, Nat.add_sub_cancel_left] at this
    exact this
  rw [HL]
  clear HL
  generalize (ls s).getD i 0 = x0 at *
  generalize (ls s).getD (i + 1) 0 = x1 at *
  generalize (ls s).getD (i + 2) 0 = x2 at *
  generalize (ls s).getD (i + 3) 0 = x3 at *
  obtain ⟨L, hL⟩ : ∃ L, leb [x0, x1, x2, x3] = L := ⟨_, rfl⟩
  rw [hL]
  have HLE := Lib.hid hL
  clear hL
  have i0 : (0 : Int) ≤ (i : Int) := by omega
  have i1 : (i : Int) + 4 ≤ s.size := by omega
  have i2 : (i : Int) ≤ (i : Int) + 4 := by omega
  have i3 : (s.size : Int) ≤ 1000 := by omega
  have e2 : ((i : Int) + 4).toNat = i + 4 := by omega
  go_enter Try.func54, Try.ntmps54
  go_upto_region 2 with fail
  clear hE
  have b0 := x0.toNat_lt
  have b1 := x1.toNat_lt
  have b2 := x2.toNat_lt
  have b3 := x3.toNat_lt
  refine wp_region_draws_tail 18 (by kernel_rfl) (by kernel_rfl) ?_
  simp only [List.take_succ_cons, List.take_zero, List.drop_succ_cons, List.drop_zero]
  repeat (go_big_quiet_step (fail))
  refine wpQuiet_nil ?_
  intro _ hw'
  obtain ⟨k, hw''⟩ := hw'
  subst hw''
  rw [le_or4u x0 x1 x2 x3, HLE.out]
  go_wp2_with fail
  go_ret
  exact ⟨rfl, below_drewN (Below.refl _ _) k⟩
/-- Four bytes from place i on, as a part of the whole. -/
theorem word_part (l : List UInt8) (i : Nat) : leb ((l.drop i).take 4) = leb l / 256 ^ i % 4294967296 := by
  rw [← leb_mod, ← leb_div]
theorem and26 (a : Nat) (h : a < 18446744073709551616) : bits .and .u64 (a : Int) 67108863 = ((a % 67108864 : Nat) : Int) := by
  have := u64_and_nat a 67108863 h (by decide)
  rw [show ((67108863 : Nat) : Int) = 67108863 from rfl] at this
  rw [this, show (67108863 : Nat) = 2 ^ 26 - 1 from rfl, Nat.and_two_pow_sub_one_eq_mod]
theorem split_parts (v : Nat) : (splitL v).a = v / 256 ^ 0 % 4294967296 % 67108864 ∧ (splitL v).b = v / 256 ^ 3 % 4294967296 / 4 % 67108864 ∧ (splitL v).c = v / 256 ^ 6 % 4294967296 / 16 % 67108864 ∧
    (splitL v).d = v / 256 ^ 9 % 4294967296 / 64 ∧ (v < 340282366920938463463374607431768211456 → (splitL v).e = v / 256 ^ 12 % 4294967296 / 256) := by
  simp only [splitL, show (256 : Nat) ^ 0 = 1 from rfl, show (256 : Nat) ^ 3 = 16777216 from rfl, show (256 : Nat) ^ 6 = 281474976710656 from rfl, show (256 : Nat) ^ 9 = 4722366482869645213696 from rfl, show (256 : Nat) ^ 12 = 79228162514264337593543950336 from rfl]
  omega
theorem infoL (f : Nat → Nat) : (Try.prog.info? 61).map (·.size) = some (rowF f).size := by rw [size_rowF]; kernel_rfl
theorem one_lvA (x : L5) : (lvA x).all (·.oneCell') = true := one_rowF (getL x)

set_option maxRecDepth 100000 in
set_option maxHeartbeats 1000000 in
theorem split_any (s : ByteArray) (w : World) (hs : s.size = 16) :
    Calls Try.prog 39 #[.string s] w fun e w' => e = .returned (.agg (lvA (splitL (leb (ls s))))) ∧ Below w.heap.size w w' := by
  have W0 := Lib.hid (fun w => word_any s 0 w (by omega) (by omega))
  have W3 := Lib.hid (fun w => word_any s 3 w (by omega) (by omega))
  have W6 := Lib.hid (fun w => word_any s 6 w (by omega) (by omega))
  have W9 := Lib.hid (fun w => word_any s 9 w (by omega) (by omega))
  have W12 := Lib.hid (fun w => word_any s 12 w (by omega) (by omega))
  rw [word_part] at W0 W3 W6 W9 W12
  have hv := leb_lt (ls s)
  rw [length_ls, hs, show (256 : Nat) ^ 16 = 340282366920938463463374607431768211456 by decide] at hv
  obtain ⟨p0, p1, p2, p3, p4⟩ := split_parts (leb (ls s))
  have p4 := p4 hv
  have HR := Lib.hid (show lvA (splitL (leb (ls s))) = #[.int .u64 ((splitL (leb (ls s))).a : Int), .int .u64 ((splitL (leb (ls s))).b : Int), .int .u64 ((splitL (leb (ls s))).c : Int), .int .u64 ((splitL (leb (ls s))).d : Int), .int .u64 ((splitL (leb (ls s))).e : Int)] from rfl)
  rw [HR.out, p0, p1, p2, p3, p4]
  have b0 : leb (ls s) / 256 ^ 0 % 4294967296 < 4294967296 := Nat.mod_lt _ (by decide)
  have b3 : leb (ls s) / 256 ^ 3 % 4294967296 < 4294967296 := Nat.mod_lt _ (by decide)
  have b6 : leb (ls s) / 256 ^ 6 % 4294967296 < 4294967296 := Nat.mod_lt _ (by decide)
  have b9 : leb (ls s) / 256 ^ 9 % 4294967296 < 4294967296 := Nat.mod_lt _ (by decide)
  have b12 : leb (ls s) / 256 ^ 12 % 4294967296 < 4294967296 := Nat.mod_lt _ (by decide)
  clear HR p0 p1 p2 p3 p4 hv
  generalize leb (ls s) / 256 ^ 0 % 4294967296 = v0 at *
  generalize leb (ls s) / 256 ^ 3 % 4294967296 = v3 at *
  generalize leb (ls s) / 256 ^ 6 % 4294967296 = v6 at *
  generalize leb (ls s) / 256 ^ 9 % 4294967296 = v9 at *
  generalize leb (ls s) / 256 ^ 12 % 4294967296 = v12 at *
  have a0 := and26 v0 (by omega)
  have a3 := and26 (v3 / 4) (by omega)
  have a6 := and26 (v6 / 16) (by omega)
  have d3 : (v3 : Int) / 4 = ((v3 / 4 : Nat) : Int) := by omega
  have d6 : (v6 : Int) / 16 = ((v6 / 16 : Nat) : Int) := by omega
  have d9 : (v9 : Int) / 64 = ((v9 / 64 : Nat) : Int) := by omega
  have d12 : (v12 : Int) / 256 = ((v12 / 256 : Nat) : Int) := by omega
  have z : ((0 : Nat) : Int) = 0 := rfl
  have z3 : ((3 : Nat) : Int) = 3 := rfl
  have z6 : ((6 : Nat) : Int) = 6 := rfl
  have z9 : ((9 : Nat) : Int) = 9 := rfl
  have z12 : ((12 : Nat) : Int) = 12 := rfl
  rw [z] at W0
  rw [z3] at W3
  rw [z6] at W6
  rw [z9] at W9
  rw [z12] at W12
  have m0 : v0 % 67108864 < 67108864 := Nat.mod_lt _ (by decide)
  have m3 : v3 / 4 % 67108864 < 67108864 := Nat.mod_lt _ (by decide)
  have m6 : v6 / 16 % 67108864 < 67108864 := Nat.mod_lt _ (by decide)
  have n3 : v3 / 4 < 4294967296 := by omega
  have n6 : v6 / 16 < 4294967296 := by omega
  generalize v0 % 67108864 = r0 at *
  generalize v3 / 4 % 67108864 = r3 at *
  generalize v6 / 16 % 67108864 = r6 at *
  generalize v3 / 4 = q3 at *
  generalize v6 / 16 = q6 at *
  generalize v9 / 64 = r9 at *
  generalize v12 / 256 = r12 at *
  clear hs z z3 z6 z9 z12
  have R0 := (Rw.nil w).alloc #[.int .u64 0, .int .u64 0, .int .u64 0, .int .u64 0, .int .u64 0] 61
  simp only [List.nil_append] at R0
  have RR0 := Lib.hid R0
  have IN := Lib.hid (show (Try.prog.info? 61).map (·.size) = some (#[.int .u64 (r0 : Int), .int .u64 (r3 : Int), .int .u64 (r6 : Int), .int .u64 (r9 : Int), .int .u64 (r12 : Int)] : Array Value).size from by kernel_rfl)
  have LN := Lib.hid (show (#[.int .u64 0, .int .u64 0, .int .u64 0, .int .u64 0, .int .u64 0] : Array Value).size = (#[.int .u64 (r0 : Int), .int .u64 (r3 : Int), .int .u64 (r6 : Int), .int .u64 (r9 : Int), .int .u64 (r12 : Int)] : Array Value).size from rfl)
  have ON := Lib.hid (show (#[.int .u64 (r0 : Int), .int .u64 (r3 : Int), .int .u64 (r6 : Int), .int .u64 (r9 : Int), .int .u64 (r12 : Int)] : Array Value).all (·.oneCell') = true from by simp [Value.oneCell'])
  clear R0 p4
  go_enter Try.func39, Try.ntmps39
  go_wp2_with fail
  refine (W0.out _).mono ?_
  rintro e w1 ⟨rfl, hb⟩
  have R1 := Lib.hid (RR0.out.on hb)
  clear hb
  go_wp2_with fail
  refine (W3.out _).mono ?_
  rintro e w2 ⟨rfl, hb⟩
  have R2 := Lib.hid (R1.out.on hb)
  clear hb
  go_wp2_with fail
  refine (W6.out _).mono ?_
  rintro e w3 ⟨rfl, hb⟩
  have R3 := Lib.hid (R2.out.on hb)
  clear hb
  go_wp2_with fail
  refine (W9.out _).mono ?_
  rintro e w4 ⟨rfl, hb⟩
  have R4 := Lib.hid (R3.out.on hb)
  clear hb
  go_wp2_with fail
  refine (W12.out _).mono ?_
  rintro e w5 ⟨rfl, hb⟩
  have R5 := Lib.hid (R4.out.on hb)
  clear hb
  have RW := Lib.hid (R5.out.row 0)
  go_wp2_with (with_reducible refine wpList_store_row rfl 61 (.tmp 2) (.tmp 20) rfl w.heap.size #[.int .u64 (r0 : Int), .int .u64 (r3 : Int), .int .u64 (r6 : Int), .int .u64 (r9 : Int), .int .u64 (r12 : Int)] rfl rfl 61 #[.int .u64 0, .int .u64 0, .int .u64 0, .int .u64 0, .int .u64 0] RW.out IN.out LN.out ON.out ?_)
  have R6 := R5.out.store 0 #[.int .u64 (r0 : Int), .int .u64 (r3 : Int), .int .u64 (r6 : Int), .int .u64 (r9 : Int), .int .u64 (r12 : Int)]
  refine bodyPost_ret (results_cell_row rfl _ _ w.heap.size 61 #[.int .u64 (r0 : Int), .int .u64 (r3 : Int), .int .u64 (r6 : Int), .int .u64 (r9 : Int), .int .u64 (r12 : Int)] (0, 0) _ rfl (R6.row 0) Try.underlying61 rfl IN.out) rfl ⟨rfl, R6.bel⟩
end Go.Proofs.Ytkfacnegfkgcgaa
