/-
  poly.finish: the walk.
-/
import Derived.Test.YtkfacnegfkgcgaaPWf
import Derived.Shelf.Spec.BitsCarry
namespace Go.Proofs.Ytkfacnegfkgcgaa
open Go.RowKit MS

def renP : Go.Shelf.Ren := ⟨fun n => if n = 25 then 56 else n, fun n => if n = 22 then 59 else n, fun n => n⟩
theorem laysP : Lays7.n25 Try.prog renP := { mixed := by kernel_rfl, f25 := by kernel_rfl, t22 := by kernel_rfl, a22 := fun _ => by kernel_rfl, z22 := fun _ => by kernel_rfl, v22 := fun _ => by kernel_rfl, i22 := by kernel_rfl }
theorem add64P (x y c l h : Nat) (hc : c ≤ 1) (hl : l = (x + y + c) % 18446744073709551616) (hh : h = (x + y + c) / 18446744073709551616) (w : World) : (callFunc 56 #[.int .u64 x, .int .u64 y, .int .u64 c]).run Try.prog w = .ok (.value (.tuple #[.int .u64 ((l : Nat) : Int), .int .u64 ((h : Nat) : Int)])) w := by
  subst hl hh
  exact Any7.bits_Add64 laysP x y c hc w

/-- The words of a number of five limbs, and of the half. -/
theorem low_word {x : L5} (h : x.in26) : (x.a ||| x.b * 67108864) ||| x.c % 4096 * 4503599627370496 = x.v % 18446744073709551616 ∧ x.a ||| x.b * 67108864 < 4503599627370496 := by
  obtain ⟨h0, h1, h2, h3, h4⟩ := h
  have e1 := or_mulP x.a x.b 26 (by omega)
  rw [show (2 : Nat) ^ 26 = 67108864 by decide] at e1
  have e2 := or_mulP (x.b * 67108864 + x.a) (x.c % 4096) 52 (by omega)
  rw [show (2 : Nat) ^ 52 = 4503599627370496 by decide] at e2
  rw [e1, e2]
  unfold L5.v
  omega
theorem high_word {x : L5} (h : x.in26) : (x.c / 4096 ||| x.d * 16384) ||| x.e % 16777216 * 1099511627776 = x.v / 18446744073709551616 % 18446744073709551616 ∧ x.c / 4096 ||| x.d * 16384 < 1099511627776 := by
  obtain ⟨h0, h1, h2, h3, h4⟩ := h
  have e1 := or_mulP (x.c / 4096) x.d 14 (by omega)
  rw [show (2 : Nat) ^ 14 = 16384 by decide] at e1
  have e2 := or_mulP (x.d * 16384 + x.c / 4096) (x.e % 16777216) 40 (by omega)
  rw [show (2 : Nat) ^ 40 = 1099511627776 by decide] at e2
  rw [e1, e2]
  unfold L5.v
  omega
theorem half_word (a b : Nat) (ha : a < 4294967296) : a ||| b * 4294967296 = a + 4294967296 * b := by
  have e1 := or_mulP a b 32 (by omega)
  rw [show (2 : Nat) ^ 32 = 4294967296 by decide] at e1
  rw [e1]; omega
theorem or64 (a b c : Nat) (ha : a < 18446744073709551616) (hb : b < 18446744073709551616) (h : a ||| b = c) : bits .or .u64 (a : Int) (b : Int) = ((c : Nat) : Int) := by
  rw [u64_or_nat a b ha hb, h]
theorem shl64 (a m c : Nat) (h : a * m % 18446744073709551616 = c) : IntKind.u64.wrap ((a : Int) * (m : Int)) = ((c : Nat) : Int) := by
  rw [IntKind.wrap_u64]
  subst h
  rw [Int.natCast_emod, Int.natCast_mul]
  rfl
theorem L_low (Y : Nat) : Y % 4294967296 + 4294967296 * (Y / 4294967296 % 4294967296) = Y % 18446744073709551616 := by omega
theorem L_high (Y : Nat) (h : Y < 340282366920938463463374607431768211456) : Y / 18446744073709551616 % 4294967296 + 4294967296 * (Y / 79228162514264337593543950336 % 4294967296) = Y / 18446744073709551616 := by omega
theorem L_sum (X Y : Nat) : (X + Y) % 18446744073709551616 = (X % 18446744073709551616 + Y % 18446744073709551616 + 0) % 18446744073709551616 := by omega
theorem L_sum2 (X Y : Nat) : (X + Y) / 18446744073709551616 % 18446744073709551616 = (X / 18446744073709551616 % 18446744073709551616 + Y / 18446744073709551616 + (X % 18446744073709551616 + Y % 18446744073709551616 + 0) / 18446744073709551616) % 18446744073709551616 := by omega
theorem L_q1 (b : Nat) (h : b < 67108864) : b * 67108864 % 18446744073709551616 = b * 67108864 := by omega
theorem L_q2 (b : Nat) (_h : b < 67108864) : b * 4503599627370496 % 18446744073709551616 = b % 4096 * 4503599627370496 := by omega
theorem L_q3 (b : Nat) (h : b < 4294967296) : b * 4294967296 % 18446744073709551616 = b * 4294967296 := by omega
theorem L_q4 (b : Nat) (h : b < 67108864) : b * 16384 % 18446744073709551616 = b * 16384 := by omega
theorem L_q5 (b : Nat) (_h : b < 67108864) : b * 1099511627776 % 18446744073709551616 = b % 16777216 * 1099511627776 := by omega
theorem L_26 (b : Nat) (h : b < 67108864) : b < 18446744073709551616 := by omega
theorem L_32 (b : Nat) (h : b < 4294967296) : b < 18446744073709551616 := by omega
theorem L_b1 (b : Nat) (h : b < 67108864) : b * 67108864 < 18446744073709551616 := by omega
theorem L_b2 (b : Nat) : b % 4096 * 4503599627370496 < 18446744073709551616 := by omega
theorem L_b3 (b : Nat) (h : b < 4294967296) : b * 4294967296 < 18446744073709551616 := by omega
theorem L_b4 (b : Nat) (h : b < 67108864) : b * 16384 < 18446744073709551616 := by omega
theorem L_b5 (b : Nat) : b % 16777216 * 1099511627776 < 18446744073709551616 := by omega
theorem L_b7 (b : Nat) (h : b < 67108864) : b / 4096 < 18446744073709551616 := by omega
theorem L_cr {a b c : Nat} (ha : a < 18446744073709551616) (hb : b < 18446744073709551616) (h : (a + b + 0) / 18446744073709551616 = c) : c ≤ 1 := by omega
/-- The bytes so far: j of the low word, j of the high one. -/
def finL (T j : Nat) : List UInt8 := (List.range 16).map fun i => if i < j ∨ 8 ≤ i ∧ i < 8 + j then UInt8.ofNat (T / 256 ^ i % 256) else 0
theorem length_finL (T j : Nat) : (finL T j).length = 16 := by simp [finL]
theorem finL_get (T j i : Nat) (h : i < 16) : (finL T j)[i]? = some (if i < j ∨ 8 ≤ i ∧ i < 8 + j then UInt8.ofNat (T / 256 ^ i % 256) else 0) := by simp [finL, h]
theorem finL_zero (T : Nat) : finL T 0 = List.replicate 16 0 := by
  apply List.ext_getElem?
  intro i
  by_cases h : i < 16
  · rw [finL_get _ _ _ h, if_neg (by omega), List.getElem?_replicate, if_pos h]
  · rw [List.getElem?_eq_none (by rw [length_finL]; omega), List.getElem?_eq_none (by simp; omega)]
theorem finL_step (T j : Nat) (h : j < 8) : ((finL T j).set j (UInt8.ofNat (T / 256 ^ j % 256))).set (8 + j) (UInt8.ofNat (T / 256 ^ (8 + j) % 256)) = finL T (j + 1) := by
  apply List.ext_getElem?
  intro i
  rw [List.getElem?_set, List.length_set, length_finL, List.getElem?_set, length_finL]
  by_cases hi : i < 16
  · rw [finL_get _ _ _ hi, finL_get _ _ _ hi]
    by_cases e1 : 8 + j = i
    · subst e1
      rw [if_pos rfl, if_pos hi, if_pos (by omega)]
    · rw [if_neg e1]
      by_cases e2 : j = i
      · subst e2
        rw [if_pos rfl, if_pos hi, if_pos (by omega)]
      · rw [if_neg e2]
        congr 1
        by_cases h3 : i < j ∨ 8 ≤ i ∧ i < 8 + j
        · rw [if_pos h3, if_pos (by omega)]
        · rw [if_neg h3, if_neg (by omega)]
  · rw [if_neg (by omega), if_neg (by omega), List.getElem?_eq_none (by rw [length_finL]; omega), List.getElem?_eq_none (by rw [length_finL]; omega)]
theorem finL_end (T : Nat) : finL T 8 = nbs 16 T := by
  apply List.ext_getElem?
  intro i
  by_cases h : i < 16
  · rw [finL_get _ _ _ h, nbs_get _ _ _ h, if_pos (by omega)]
  · rw [List.getElem?_eq_none (by rw [length_finL]; omega), List.getElem?_eq_none (by rw [length_nbs]; omega)]
theorem dig_low (T j : Nat) (h : j < 8) : T % 18446744073709551616 / 256 ^ j % 256 = T / 256 ^ j % 256 := dig_mod 256 8 T j h
theorem dig_high (T j : Nat) (h : j < 8) : T / 18446744073709551616 % 18446744073709551616 / 256 ^ j % 256 = T / 256 ^ (8 + j) % 256 := by
  rw [show T / 18446744073709551616 % 18446744073709551616 / 256 ^ j % 256 = T / 18446744073709551616 / 256 ^ j % 256 from dig_mod 256 8 _ j h, Nat.pow_add, Nat.div_div_eq_div_mul]

set_option maxRecDepth 1000000 in
set_option maxHeartbeats 4000000 in
theorem finish_poly (x : L5) (half : ByteArray) (hx : x.in26) (hh : half.size = 16) (w : World) :
    Calls Try.prog 42 #[.agg (lvA x), .string half] w fun e w' => e = .returned (.string (bs (nbs 16 (x.v + leb (ls half))))) ∧ Below w.heap.size w w' := by
  have W0 := Lib.hid (fun w => word_any half 0 w (by omega) (by omega))
  have W4 := Lib.hid (fun w => word_any half 4 w (by omega) (by omega))
  have W8 := Lib.hid (fun w => word_any half 8 w (by omega) (by omega))
  have W12 := Lib.hid (fun w => word_any half 12 w (by omega) (by omega))
  rw [word_part] at W0 W4 W8 W12
  have hv := leb_lt (ls half)
  rw [length_ls, hh, show (256 : Nat) ^ 16 = 340282366920938463463374607431768211456 by decide] at hv
  rw [show (256 : Nat) ^ 0 = 1 by decide, Nat.div_one, show ((0 : Nat) : Int) = 0 from rfl] at W0
  rw [show (256 : Nat) ^ 4 = 4294967296 by decide, show ((4 : Nat) : Int) = 4 from rfl] at W4
  rw [show (256 : Nat) ^ 8 = 18446744073709551616 by decide, show ((8 : Nat) : Int) = 8 from rfl] at W8
  rw [show (256 : Nat) ^ 12 = 79228162514264337593543950336 by decide, show ((12 : Nat) : Int) = 12 from rfl] at W12
  obtain ⟨lw, lb⟩ := low_word hx
  obtain ⟨hw, hb⟩ := high_word hx
  obtain ⟨h0, h1, h2, h3, h4⟩ := hx
  have HRES := Lib.hid (show lvA x = #[.int .u64 (x.a : Int), .int .u64 (x.b : Int), .int .u64 (x.c : Int), .int .u64 (x.d : Int), .int .u64 (x.e : Int)] from rfl)
  rw [HRES.out]
  generalize leb (ls half) = Y at *
  generalize x.v = X at *
  have lY : (Y % 4294967296) ||| (Y / 4294967296 % 4294967296) * 4294967296 = Y % 18446744073709551616 := by rw [half_word _ _ (Nat.mod_lt _ (by decide))]; exact L_low Y
  have hY : (Y / 18446744073709551616 % 4294967296) ||| (Y / 79228162514264337593543950336 % 4294967296) * 4294967296 = Y / 18446744073709551616 := by rw [half_word _ _ (Nat.mod_lt _ (by decide))]; exact L_high Y hv
  have y0 : Y % 4294967296 < 4294967296 := Nat.mod_lt _ (by decide)
  have y4 : Y / 4294967296 % 4294967296 < 4294967296 := Nat.mod_lt _ (by decide)
  have y8 : Y / 18446744073709551616 % 4294967296 < 4294967296 := Nat.mod_lt _ (by decide)
  have y12 : Y / 79228162514264337593543950336 % 4294967296 < 4294967296 := Nat.mod_lt _ (by decide)
  have z1 : Y % 18446744073709551616 < 18446744073709551616 := Nat.mod_lt _ (by decide)
  have z0 : X % 18446744073709551616 < 18446744073709551616 := Nat.mod_lt _ (by decide)
  have hlo := L_sum X Y
  have hhi := L_sum2 X Y
  obtain ⟨v0, ev0⟩ : ∃ n, Y % 4294967296 = n := ⟨_, rfl⟩
  obtain ⟨v4, ev4⟩ : ∃ n, Y / 4294967296 % 4294967296 = n := ⟨_, rfl⟩
  obtain ⟨v8, ev8⟩ : ∃ n, Y / 18446744073709551616 % 4294967296 = n := ⟨_, rfl⟩
  obtain ⟨v12, ev12⟩ : ∃ n, Y / 79228162514264337593543950336 % 4294967296 = n := ⟨_, rfl⟩
  obtain ⟨l0, el0⟩ : ∃ n, X % 18446744073709551616 = n := ⟨_, rfl⟩
  obtain ⟨l1, el1⟩ : ∃ n, Y % 18446744073709551616 = n := ⟨_, rfl⟩
  obtain ⟨l2, el2⟩ : ∃ n, X / 18446744073709551616 % 18446744073709551616 = n := ⟨_, rfl⟩
  obtain ⟨l3, el3⟩ : ∃ n, Y / 18446744073709551616 = n := ⟨_, rfl⟩
  obtain ⟨T, hT⟩ : ∃ T, X + Y = T := ⟨_, rfl⟩
  rw [ev0, ev4, el1] at lY
  rw [ev8, ev12, el3] at hY
  rw [ev0] at W0 y0
  rw [ev4] at W4 y4
  rw [ev8] at W8 y8
  rw [ev12] at W12 y12
  rw [el0] at lw
  rw [el2] at hw
  rw [hT, el0, el1] at hlo
  rw [hT, el2, el3, el0, el1] at hhi
  rw [el1] at z1
  rw [el0] at z0
  rw [hT]
  clear ev0 ev4 ev8 ev12 el0 el1 el2 el3 hT hv
  have q1 := shl64 x.b 67108864 _ (L_q1 _ h1)
  have q2 := shl64 x.c 4503599627370496 _ (L_q2 _ h2)
  have q3 := shl64 v4 4294967296 _ (L_q3 _ y4)
  have q4 := shl64 x.d 16384 _ (L_q4 _ h3)
  have q5 := shl64 x.e 1099511627776 _ (L_q5 _ h4)
  have q6 := shl64 v12 4294967296 _ (L_q3 _ y12)
  have o1 := or64 x.a (x.b * 67108864) _ (L_26 _ h0) (L_b1 _ h1) rfl
  have o2 := or64 (x.a ||| x.b * 67108864) (x.c % 4096 * 4503599627370496) _ (Nat.lt_trans lb (by decide)) (L_b2 _) lw
  have o3 := or64 v0 (v4 * 4294967296) _ (L_32 _ y0) (L_b3 _ y4) lY
  have o4 := or64 (x.c / 4096) (x.d * 16384) _ (L_b7 _ h2) (L_b4 _ h3) rfl
  have o5 := or64 (x.c / 4096 ||| x.d * 16384) (x.e % 16777216 * 1099511627776) _ (Nat.lt_trans hb (by decide)) (L_b5 _) hw
  have o6 := or64 v8 (v12 * 4294967296) _ (L_32 _ y8) (L_b3 _ y12) hY
  have s1 : (x.c : Int) / 4096 = ((x.c / 4096 : Nat) : Int) := rfl
  rw [show ((67108864 : Nat) : Int) = 67108864 from rfl] at q1
  rw [show ((4503599627370496 : Nat) : Int) = 4503599627370496 from rfl] at q2
  rw [show ((4294967296 : Nat) : Int) = 4294967296 from rfl] at q3 q6
  rw [show ((16384 : Nat) : Int) = 16384 from rfl] at q4
  rw [show ((1099511627776 : Nat) : Int) = 1099511627776 from rfl] at q5
  clear lw lb hw hb lY hY hh
  obtain ⟨n1, en1⟩ : ∃ n, x.b * 67108864 = n := ⟨_, rfl⟩
  obtain ⟨n2, en2⟩ : ∃ n, x.c % 4096 * 4503599627370496 = n := ⟨_, rfl⟩
  obtain ⟨n3, en3⟩ : ∃ n, v4 * 4294967296 = n := ⟨_, rfl⟩
  obtain ⟨n4, en4⟩ : ∃ n, x.d * 16384 = n := ⟨_, rfl⟩
  obtain ⟨n5, en5⟩ : ∃ n, x.e % 16777216 * 1099511627776 = n := ⟨_, rfl⟩
  obtain ⟨n6, en6⟩ : ∃ n, v12 * 4294967296 = n := ⟨_, rfl⟩
  obtain ⟨n7, en7⟩ : ∃ n, x.c / 4096 = n := ⟨_, rfl⟩
  rw [en1] at q1 o1 o2
  rw [en2] at q2 o2
  rw [en3] at q3 o3
  rw [en4] at q4 o4 o5
  rw [en5] at q5 o5
  rw [en6] at q6 o6
  rw [en7] at o4 o5 s1
  obtain ⟨n8, en8⟩ : ∃ n, x.a ||| n1 = n := ⟨_, rfl⟩
  obtain ⟨n9, en9⟩ : ∃ n, n7 ||| n4 = n := ⟨_, rfl⟩
  rw [en8] at o1 o2
  rw [en9] at o4 o5
  obtain ⟨cr, hcr⟩ : ∃ cr, (l0 + l1 + 0) / 18446744073709551616 = cr := ⟨_, rfl⟩
  have hc1 : cr ≤ 1 := L_cr z0 z1 hcr
  rw [hcr] at hhi
  obtain ⟨c2, hc2⟩ : ∃ c2, (l2 + l3 + cr) / 18446744073709551616 = c2 := ⟨_, rfl⟩
  have hdl := dig_low T
  have hdh := dig_high T
  obtain ⟨lo, elo⟩ : ∃ n, T % 18446744073709551616 = n := ⟨_, rfl⟩
  obtain ⟨hi, ehi⟩ : ∃ n, T / 18446744073709551616 % 18446744073709551616 = n := ⟨_, rfl⟩
  have HT0 := Lib.hid (show lo < 18446744073709551616 by rw [← elo]; exact Nat.mod_lt _ (by decide))
  have HT1 := Lib.hid (show hi < 18446744073709551616 by rw [← ehi]; exact Nat.mod_lt _ (by decide))
  rw [elo] at hdl hlo
  rw [ehi] at hdh hhi
  have a1 := add64P l0 l1 0 lo cr (by decide) hlo hcr.symm
  have a2 := add64P l2 l3 cr hi c2 hc1 hhi hc2.symm
  rw [show ((0 : Nat) : Int) = 0 from rfl] at a1
  have HDL := Lib.hid hdl
  have HDH := Lib.hid hdh
  rw [← finL_end]
  obtain ⟨R, hR⟩ : ∃ R, bs (finL T 8) = R := ⟨_, rfl⟩
  rw [hR]
  have HR8 := Lib.hid hR
  have HF0 := Lib.hid (finL_zero T)
  have HFS := Lib.hid (finL_step T)
  clear hcr hlo hhi HRES hR hdl hdh en1 en2 en3 en4 en5 en6 en7 en8 en9 hc2 elo ehi hc1 z0 z1 y0 y4 y8 y12
  generalize x.a = xa at *
  generalize x.b = xb at *
  generalize x.c = xc at *
  generalize x.d = xd at *
  generalize x.e = xe at *
  have R0 := (Rw.nil w).alloc #[.int .u64 (xa : Int), .int .u64 (xb : Int), .int .u64 (xc : Int), .int .u64 (xd : Int), .int .u64 (xe : Int)] 61
  simp only [List.nil_append] at R0
  have RR0 := Lib.hid R0
  clear R0 h0 h1 h2 h3 h4
  go_enter Try.func42, Try.ntmps42
  go_upto_region 1 with fail
  generalize w.alloc (.cells #[.int .u64 (xa : Int), .int .u64 (xb : Int), .int .u64 (xc : Int), .int .u64 (xd : Int), .int .u64 (xe : Int)] 61 (0, 0)) = W at RR0 ⊢
  generalize hA : w.heap.size = ga at *
  have HA := Lib.hid hA
  clear hA
  have k0 : ∀ p : BW W, p.1.cell? ⟨ga, 0, none⟩ = some (.int .u64 (xa : Int)) := fun p => (RR0.out.on p.2).cell 0 0 rfl
  have k1 : ∀ p : BW W, p.1.cell? ⟨ga, 1, none⟩ = some (.int .u64 (xb : Int)) := fun p => (RR0.out.on p.2).cell 0 1 rfl
  have k2 : ∀ p : BW W, p.1.cell? ⟨ga, 2, none⟩ = some (.int .u64 (xc : Int)) := fun p => (RR0.out.on p.2).cell 0 2 rfl
  refine wp_region_below (by kernel_rfl) (by kernel_rfl) ?_
  repeat (go_big_quiet_step (fail))
  go_big_quiet_step (exact calls_below (W0.out _))
  repeat (go_big_quiet_step (fail))
  go_big_quiet_step (exact calls_below (W4.out _))
  repeat (go_big_quiet_step (fail))
  refine wpQuiet_nil ?_
  rintro _ ⟨p, rfl⟩
  have R1 := Lib.hid (RR0.out.on p.2)
  generalize p.1 = w1 at R1 ⊢
  clear k0 k1 k2 RR0 W0 W4 o1 o2 o3 q1 q2 q3 a1
  go_upto_region 2 with fail
  have k2 : ∀ p : BW w1, p.1.cell? ⟨ga, 2, none⟩ = some (.int .u64 (xc : Int)) := fun p => (R1.out.on p.2).cell 0 2 rfl
  have k3 : ∀ p : BW w1, p.1.cell? ⟨ga, 3, none⟩ = some (.int .u64 (xd : Int)) := fun p => (R1.out.on p.2).cell 0 3 rfl
  have k4 : ∀ p : BW w1, p.1.cell? ⟨ga, 4, none⟩ = some (.int .u64 (xe : Int)) := fun p => (R1.out.on p.2).cell 0 4 rfl
  refine wp_region_below (by kernel_rfl) (by kernel_rfl) ?_
  repeat (go_big_quiet_step (fail))
  go_big_quiet_step (exact calls_below (W8.out _))
  repeat (go_big_quiet_step (fail))
  go_big_quiet_step (exact calls_below (W12.out _))
  repeat (go_big_quiet_step (fail))
  refine wpQuiet_nil ?_
  rintro _ ⟨p, rfl⟩
  have R2 := Lib.hid (R1.out.on p.2)
  generalize p.1 = w2 at R2 ⊢
  clear k2 k3 k4 R1 W8 W12 o4 o5 o6 q4 q5 q6 a2 s1
  have B0 := Lib.hid (show Bt 75 w2.heap.size w (finL T 0) (w2.alloc (.cells #[.int .u8 0, .int .u8 0, .int .u8 0, .int .u8 0, .int .u8 0, .int .u8 0, .int .u8 0, .int .u8 0, .int .u8 0, .int .u8 0, .int .u8 0, .int .u8 0, .int .u8 0, .int .u8 0, .int .u8 0, .int .u8 0] 75 (0, 0))) from by
    rw [HF0.out, zeros16]; exact Bt.made R2.out.bel _)
  go_upto_region 4 with fail
  generalize w2.alloc (.cells #[.int .u8 0, .int .u8 0, .int .u8 0, .int .u8 0, .int .u8 0, .int .u8 0, .int .u8 0, .int .u8 0, .int .u8 0, .int .u8 0, .int .u8 0, .int .u8 0, .int .u8 0, .int .u8 0, .int .u8 0, .int .u8 0] 75 (0, 0)) = w3 at B0 ⊢
  generalize w2.heap.size = go at B0 ⊢
  clear R2
  go_wp2_with fail
  go_loopw [53] (fun c wr => ∃ j : Nat, j ≤ 8 ∧ c = .int .i64 j ∧ Bt 75 go w (finL T j) wr) (fun c _ => 8 - (intOf c).toNat)
  case atStart => exact ⟨0, by omega, rfl, B0.out⟩
  case round =>
    obtain ⟨j, hj, rfl, hr⟩ := hrel
    have R4 := Lib.hid hr
    clear hr B0
    by_cases hlt : j < 8
    · have j1 : (j : Int) < 8 := by omega
      have j0 : (0 : Int) ≤ j := by omega
      have HLT := Lib.hid hlt
      have r8 : j = 0 ∨ j = 1 ∨ j = 2 ∨ j = 3 ∨ j = 4 ∨ j = 5 ∨ j = 6 ∨ j = 7 := by omega
      have cj := R4.out.cell j (by rw [length_finL]; omega)
      have fj := R4.out.free j
      have put := R4.out.put j (UInt8.ofNat (T / 256 ^ j % 256))
      have ck := put.cell (8 + j) (by rw [List.length_set, length_finL]; omega)
      have fk := put.free (8 + j)
      have put2 := put.put (8 + j) (UInt8.ofNat (T / 256 ^ (8 + j) % 256))
      rw [HFS.out j hlt] at put2
      have d1 := HDL.out j hlt
      have d2 := HDH.out j hlt
      have b1 := dig_lt 256 (by decide) T j
      have b2 := dig_lt 256 (by decide) T (8 + j)
      obtain ⟨x1, ex1⟩ : ∃ n, T / 256 ^ j % 256 = n := ⟨_, rfl⟩
      obtain ⟨x2, ex2⟩ : ∃ n, T / 256 ^ (8 + j) % 256 = n := ⟨_, rfl⟩
      rw [ex1] at put put2 d1 b1 ck fk
      rw [ex2] at put2 d2 b2
      have hv1 : valB (UInt8.ofNat x1) = .int .u8 (x1 : Int) := by rw [valB, UInt8.toNat_ofNat', show x1 % 2 ^ 8 = x1 by omega]
      have hv2 : valB (UInt8.ofNat x2) = .int .u8 (x2 : Int) := by rw [valB, UInt8.toNat_ofNat', show x2 % 2 ^ 8 = x2 by omega]
      rw [hv1] at put put2 ck fk
      rw [hv2] at put2
      have PUT := Lib.hid put2
      generalize ((finL T j).getD j 0).toNat = u1 at cj
      generalize (((finL T j).set j (UInt8.ofNat x1)).getD (8 + j) 0).toNat = u2 at ck
      have l0 := HT0.out
      have l1 := HT1.out
      have LL := Lib.hid (And.intro l0 l1)
      obtain ⟨k, hk⟩ : ∃ k, 8 + j = k := ⟨_, rfl⟩
      rw [hk] at ck fk PUT
      have e3 : (8 : Int) + (j : Int) = (k : Int) := by omega
      have e4 : (k : Int) < 16 := by omega
      have e5 : (0 : Int) ≤ (k : Int) := by omega
      have D1 := Lib.hid d1
      have D2 := Lib.hid d2
      clear hlt hj put put2 ex1 ex2 hv1 hv2 b1 b2 d1 d2 l0 l1 hk
      have lo0 : (0 : Int) ≤ (lo : Int) := by omega
      have hi0 : (0 : Int) ≤ (hi : Int) := by omega
      rcases r8 with h8 | h8 | h8 | h8 | h8 | h8 | h8 | h8
      · have rk : (8 : Int) * (j : Int) = 0 := by omega
        have vb : (lo : Int) % 256 = (x1 : Int) := by have := D1.out; rw [h8, show (256 : Nat) ^ 0 = 1 by decide] at this; omega
        have vh : (hi : Int) % 256 = (x2 : Int) := by have := D2.out; rw [h8, show (256 : Nat) ^ 0 = 1 by decide] at this; omega
        clear h8
        go_upto_region 8 with fail
        generalize World.setCell wr _ _ = w6 at ck fk PUT ⊢
        clear cj fj vb
        go_wp2_with fail
        go_roundw
        case rel => exact ⟨j + 1, by have := HLT.out; omega, by go_num, PUT.out⟩
        case measure => simp [intOf]; have := HLT.out; omega
      · have rk : (8 : Int) * (j : Int) = 8 := by omega
        have vb : (lo : Int) / 256 % 256 = (x1 : Int) := by have := D1.out; rw [h8, show (256 : Nat) ^ 1 = 256 by decide] at this; omega
        have vh : (hi : Int) / 256 % 256 = (x2 : Int) := by have := D2.out; rw [h8, show (256 : Nat) ^ 1 = 256 by decide] at this; omega
        clear h8
        go_upto_region 8 with fail
        generalize World.setCell wr _ _ = w6 at ck fk PUT ⊢
        clear cj fj vb
        go_wp2_with fail
        go_roundw
        case rel => exact ⟨j + 1, by have := HLT.out; omega, by go_num, PUT.out⟩
        case measure => simp [intOf]; have := HLT.out; omega
      · have rk : (8 : Int) * (j : Int) = 16 := by omega
        have vb : (lo : Int) / 65536 % 256 = (x1 : Int) := by have := D1.out; rw [h8, show (256 : Nat) ^ 2 = 65536 by decide] at this; omega
        have vh : (hi : Int) / 65536 % 256 = (x2 : Int) := by have := D2.out; rw [h8, show (256 : Nat) ^ 2 = 65536 by decide] at this; omega
        clear h8
        go_upto_region 8 with fail
        generalize World.setCell wr _ _ = w6 at ck fk PUT ⊢
        clear cj fj vb
        go_wp2_with fail
        go_roundw
        case rel => exact ⟨j + 1, by have := HLT.out; omega, by go_num, PUT.out⟩
        case measure => simp [intOf]; have := HLT.out; omega
      · have rk : (8 : Int) * (j : Int) = 24 := by omega
        have vb : (lo : Int) / 16777216 % 256 = (x1 : Int) := by have := D1.out; rw [h8, show (256 : Nat) ^ 3 = 16777216 by decide] at this; omega
        have vh : (hi : Int) / 16777216 % 256 = (x2 : Int) := by have := D2.out; rw [h8, show (256 : Nat) ^ 3 = 16777216 by decide] at this; omega
        clear h8
        go_upto_region 8 with fail
        generalize World.setCell wr _ _ = w6 at ck fk PUT ⊢
        clear cj fj vb
        go_wp2_with fail
        go_roundw
        case rel => exact ⟨j + 1, by have := HLT.out; omega, by go_num, PUT.out⟩
        case measure => simp [intOf]; have := HLT.out; omega
      · have rk : (8 : Int) * (j : Int) = 32 := by omega
        have vb : (lo : Int) / 4294967296 % 256 = (x1 : Int) := by have := D1.out; rw [h8, show (256 : Nat) ^ 4 = 4294967296 by decide] at this; omega
        have vh : (hi : Int) / 4294967296 % 256 = (x2 : Int) := by have := D2.out; rw [h8, show (256 : Nat) ^ 4 = 4294967296 by decide] at this; omega
        clear h8
        go_upto_region 8 with fail
        generalize World.setCell wr _ _ = w6 at ck fk PUT ⊢
        clear cj fj vb
        go_wp2_with fail
        go_roundw
        case rel => exact ⟨j + 1, by have := HLT.out; omega, by go_num, PUT.out⟩
        case measure => simp [intOf]; have := HLT.out; omega
      · have rk : (8 : Int) * (j : Int) = 40 := by omega
        have vb : (lo : Int) / 1099511627776 % 256 = (x1 : Int) := by have := D1.out; rw [h8, show (256 : Nat) ^ 5 = 1099511627776 by decide] at this; omega
        have vh : (hi : Int) / 1099511627776 % 256 = (x2 : Int) := by have := D2.out; rw [h8, show (256 : Nat) ^ 5 = 1099511627776 by decide] at this; omega
        clear h8
        go_upto_region 8 with fail
        generalize World.setCell wr _ _ = w6 at ck fk PUT ⊢
        clear cj fj vb
        go_wp2_with fail
        go_roundw
        case rel => exact ⟨j + 1, by have := HLT.out; omega, by go_num, PUT.out⟩
        case measure => simp [intOf]; have := HLT.out; omega
      · have rk : (8 : Int) * (j : Int) = 48 := by omega
        have vb : (lo : Int) / 281474976710656 % 256 = (x1 : Int) := by have := D1.out; rw [h8, show (256 : Nat) ^ 6 = 281474976710656 by decide] at this; omega
        have vh : (hi : Int) / 281474976710656 % 256 = (x2 : Int) := by have := D2.out; rw [h8, show (256 : Nat) ^ 6 = 281474976710656 by decide] at this; omega
        clear h8
        go_upto_region 8 with fail
        generalize World.setCell wr _ _ = w6 at ck fk PUT ⊢
        clear cj fj vb
        go_wp2_with fail
        go_roundw
        case rel => exact ⟨j + 1, by have := HLT.out; omega, by go_num, PUT.out⟩
        case measure => simp [intOf]; have := HLT.out; omega
      · have rk : (8 : Int) * (j : Int) = 56 := by omega
        have vb : (lo : Int) / 72057594037927936 % 256 = (x1 : Int) := by have := D1.out; rw [h8, show (256 : Nat) ^ 7 = 72057594037927936 by decide] at this; omega
        have vh : (hi : Int) / 72057594037927936 % 256 = (x2 : Int) := by have := D2.out; rw [h8, show (256 : Nat) ^ 7 = 72057594037927936 by decide] at this; omega
        clear h8
        go_upto_region 8 with fail
        generalize World.setCell wr _ _ = w6 at ck fk PUT ⊢
        clear cj fj vb
        go_wp2_with fail
        go_roundw
        case rel => exact ⟨j + 1, by have := HLT.out; omega, by go_num, PUT.out⟩
        case measure => simp [intOf]; have := HLT.out; omega
    · have j1 : ¬ ((j : Int) < 8) := by omega
      have hj8 : j = 8 := by omega
      have r7 := R4.out
      rw [hj8] at r7
      have hcv := r7.conv 16 16 (length_finL T 8)
      rw [HR8.out] at hcv
      have HB := Lib.hid r7.bel
      clear r7 hj8 hlt hj R4
      go_wp2_with fail
      go_ret
      exact ⟨rfl, HB.out⟩
end Go.Proofs.Ytkfacnegfkgcgaa
