/-
  chacha.fill: words from four bytes each.
-/
import Derived.Test.YtkfacnegfkgcgaaFin
namespace Go.Proofs.Ytkfacnegfkgcgaa
open Go.RowKit MS

/-- Byte p of a text, as a number. -/
def byt (s : ByteArray) (p : Nat) : Nat := (s.data.toList.getD p 0).toNat
def leW (s : ByteArray) (i : Nat) : W32 := BitVec.ofNat 32 (byt s (4 * i) + 256 * byt s (4 * i + 1) + 65536 * byt s (4 * i + 2) + 16777216 * byt s (4 * i + 3))
def fillRow (cs : Array Value) (o : Nat) (s : ByteArray) : Nat → Array Value
  | 0 => cs
  | i + 1 => (fillRow cs o s i).setIfInBounds (o + i) (.int .u32 (wv (leW s i)))
theorem size_fillRow (cs : Array Value) (o : Nat) (s : ByteArray) (n : Nat) : (fillRow cs o s n).size = cs.size := by
  induction n with
  | zero => rfl
  | succ n ih => simp [fillRow, ih]

theorem ext4 (s : ByteArray) (j : Nat) (h : 4 * j + 4 ≤ s.size) : s.extract (4 * j) (4 * j + 4) = ByteArray.mk #[s.data.toList.getD (4 * j) 0, s.data.toList.getD (4 * j + 1) 0, s.data.toList.getD (4 * j + 2) 0, s.data.toList.getD (4 * j + 3) 0] := by
  apply ls_inj
  rw [ls_extract]
  have hl : s.data.toList.length = s.size := by simp
  show ((s.data.toList).drop (4 * j)).take (4 * j + 4 - 4 * j) = [_, _, _, _]
  generalize s.data.toList = l at hl
  rw [show 4 * j + 4 - 4 * j = 4 by omega]
  apply List.ext_getElem
  · simp; omega
  · intro i h1 h2
    simp at h1
    have h4 : i < 4 := by omega
    have hi : 4 * j + i < l.length := by omega
    match i, h4 with
    | 0, _ => simp [show 4 * j < l.length by omega]
    | 1, _ => simp [show 4 * j + 1 < l.length by omega]
    | 2, _ => simp [show 4 * j + 2 < l.length by omega]
    | 3, _ => simp [show 4 * j + 3 < l.length by omega]

theorem or_mul (a b k : Nat) (h : a < 2 ^ k) : a ||| b * 2 ^ k = b * 2 ^ k + a := by
  rw [Nat.or_comm, ← Nat.shiftLeft_eq, Nat.shiftLeft_add_eq_or_of_lt h]
theorem le_or4 (a b c d : Nat) (ha : a < 2 ^ 8) (hb : b < 2 ^ 8) (hc : c < 2 ^ 8) (hd : d < 2 ^ 8) :
    bits .or .u32 (bits .or .u32 (bits .or .u32 ((a : Int) % 4294967296) ((b : Int) % 4294967296 * 256 % 4294967296)) ((c : Int) % 4294967296 * 65536 % 4294967296)) ((d : Int) % 4294967296 * 16777216 % 4294967296)
      = wv (BitVec.ofNat 32 (a + 256 * b + 65536 * c + 16777216 * d)) := by
  have ha' : a < 256 := ha
  have hb' : b < 256 := hb
  have hc' : c < 256 := hc
  have hd' : d < 256 := hd
  clear ha hb hc hd
  have bound : ∀ x y m : Nat, x < 256 → y < m → x * m + y < 256 * m := fun x y m hx hy =>
    Nat.lt_of_lt_of_le (show x * m + y < (x + 1) * m by rw [Nat.succ_mul]; exact Nat.add_lt_add_left hy _) (Nat.mul_le_mul_right _ hx)
  have l1 : b * 256 + a < 65536 := bound b a 256 hb' ha'
  have l2 : c * 65536 + (b * 256 + a) < 16777216 := bound c _ 65536 hc' l1
  have l4 : d * 16777216 + (c * 65536 + (b * 256 + a)) < 4294967296 := bound d _ 16777216 hd' l2
  have es : a + 256 * b + 65536 * c + 16777216 * d = d * 16777216 + (c * 65536 + (b * 256 + a)) := by clear l1 l2 l4; omega
  have l3 : a + 256 * b + 65536 * c + 16777216 * d < 4294967296 := by rw [es]; exact l4
  have k1 : a < 4294967296 := Nat.lt_trans ha' (by decide)
  have k3 : b * 256 + a < 4294967296 := Nat.lt_trans l1 (by decide)
  have k2 : b * 256 < 4294967296 := Nat.lt_of_le_of_lt (Nat.le_add_right _ _) k3
  have k5 : c * 65536 + (b * 256 + a) < 4294967296 := Nat.lt_trans l2 (by decide)
  have k4 : c * 65536 < 4294967296 := Nat.lt_of_le_of_lt (Nat.le_add_right _ _) k5
  have k6 : d * 16777216 < 4294967296 := Nat.lt_of_le_of_lt (Nat.le_add_right _ _) l4
  have e0 : (a : Int) % 4294967296 = ((a : Nat) : Int) := by clear l1 l2 l3 l4 es k2 k3 k4 k5 k6 bound; omega
  have e1 : (b : Int) % 4294967296 * 256 % 4294967296 = ((b * 256 : Nat) : Int) := by clear l1 l2 l3 l4 es k1 k2 k3 k4 k5 k6 e0 bound; omega
  have e2 : (c : Int) % 4294967296 * 65536 % 4294967296 = ((c * 65536 : Nat) : Int) := by clear l1 l2 l3 l4 es k1 k2 k3 k4 k5 k6 e0 e1 bound; omega
  have e3 : (d : Int) % 4294967296 * 16777216 % 4294967296 = ((d * 16777216 : Nat) : Int) := by clear l1 l2 l3 l4 es k1 k2 k3 k4 k5 k6 e0 e1 e2 bound; omega
  rw [e0, e1, e2, e3, u32_or_nat _ _ k1 k2, or_mul a b 8 ha', u32_or_nat _ _ k3 k4, or_mul (b * 256 + a) c 16 l1, u32_or_nat _ _ k5 k6, or_mul (c * 65536 + (b * 256 + a)) d 24 l2]
  unfold wv
  rw [BitVec.toNat_ofNat, Nat.mod_eq_of_lt l3]
  rw [es]
theorem le_or4q (x0 x1 x2 x3 : UInt8) (h0 : 0 < (ByteArray.mk #[x0, x1, x2, x3]).size) (h1 : 1 < (ByteArray.mk #[x0, x1, x2, x3]).size) (h2 : 2 < (ByteArray.mk #[x0, x1, x2, x3]).size) (h3 : 3 < (ByteArray.mk #[x0, x1, x2, x3]).size) :
    bits .or .u32 (bits .or .u32 (bits .or .u32 (((ByteArray.mk #[x0, x1, x2, x3])[0]'h0).toNat % 4294967296) ((((ByteArray.mk #[x0, x1, x2, x3])[1]'h1).toNat : Int) % 4294967296 * 256 % 4294967296)) ((((ByteArray.mk #[x0, x1, x2, x3])[2]'h2).toNat : Int) % 4294967296 * 65536 % 4294967296)) ((((ByteArray.mk #[x0, x1, x2, x3])[3]'h3).toNat : Int) % 4294967296 * 16777216 % 4294967296)
      = wv (BitVec.ofNat 32 (x0.toNat + 256 * x1.toNat + 65536 * x2.toNat + 16777216 * x3.toNat)) :=
  le_or4 x0.toNat x1.toNat x2.toNat x3.toNat x0.toNat_lt x1.toNat_lt x2.toNat_lt x3.toNat_lt

set_option maxRecDepth 100000 in
set_option maxHeartbeats 1000000 in
theorem fill_any (b o n c T : Nat) (cs : Array Value) (s : ByteArray) (w : World) (ho : o + n ≤ cs.size) (hs : 4 * n ≤ s.size) (hn : n < 1000) (hr : w.heap[b]? = some (.cells cs T (0, 0))) :
    Calls Try.prog 52 #[.slice (some ⟨b, o, none⟩) n c, .string s] w fun e w' => e = .returned (.tuple #[]) ∧ w.grownBy w' (some b) ∧ w'.heap[b]? = some (.cells (fillRow cs o s n) T (0, 0)) := by
  have HR := Lib.hid hr
  have HO := Lib.hid ho
  have HS := Lib.hid hs
  have HN := Lib.hid hn
  clear hr ho hs hn
  go_enter Try.func52, Try.ntmps52
  go_wp2_with fail
  go_loopw [8] (fun i wr => ∃ i' : Nat, i' ≤ n ∧ i = .int .i64 i' ∧ w.grownBy wr (some b) ∧ wr.heap[b]? = some (.cells (fillRow cs o s i') T (0, 0))) (fun i _ => n - (intOf i).toNat)
  case atStart => exact ⟨0, by omega, rfl, World.grownBy.refl w _, HR.out⟩
  case round =>
    obtain ⟨j, hj, rfl, hg, hr⟩ := hrel
    have HG := Lib.hid hg
    have HR2 := Lib.hid hr
    clear hg hr
    by_cases hlt : j < n
    · have jn : (0 : Int) ≤ j := by omega
      have ji : (j : Int) < n := by omega
      have b1 := HS.out
      have b2 := HN.out
      have h1 : (4 : Int) * j + 4 ≤ s.size := by omega
      have h2 : (4 : Int) * j ≤ 4 * j + 4 := by omega
      clear b1
      go_wp2_with fail
      have hq := ext4 s j (by have := HS.out; omega)
      generalize hx0 : s.data.toList.getD (4 * j) 0 = x0 at hq
      have HX0 := Lib.hid hx0
      clear hx0
      generalize hx1 : s.data.toList.getD (4 * j + 1) 0 = x1 at hq
      have HX1 := Lib.hid hx1
      clear hx1
      generalize hx2 : s.data.toList.getD (4 * j + 2) 0 = x2 at hq
      have HX2 := Lib.hid hx2
      clear hx2
      generalize hx3 : s.data.toList.getD (4 * j + 3) 0 = x3 at hq
      have HX3 := Lib.hid hx3
      clear hx3
      rw [hq]
      clear hq
      refine wp_region_draws_tail 20 (by kernel_rfl) (by kernel_rfl) ?_
      simp only [List.take_succ_cons, List.take_zero, List.drop_succ_cons, List.drop_zero]
      repeat (go_big_quiet_step (fail))
      refine wpQuiet_nil ?_
      intro _ hw'
      obtain ⟨k, hw''⟩ := hw'
      subst hw''
      rw [le_or4q x0 x1 x2 x3]
      generalize hV : BitVec.ofNat 32 _ = V
      have hVL : leW s j = V := by rw [← hV, leW, byt, byt, byt, byt, HX0.out, HX1.out, HX2.out, HX3.out]
      have hjs : o + j < (fillRow cs o s j).size := by rw [size_fillRow]; have := HO.out; omega
      have hc : wr.cell? ⟨b, o + j, none⟩ = some ((fillRow cs o s j)[o + j]'hjs) := by rw [cell_of_row wr b (o + j) _ _ _ HR2.out]; simp [hjs]
      have hf := frozen_of_row wr b (o + j) _ _ HR2.out
      generalize (fillRow cs o s j)[o + j]'hjs = u at hc
      have HV := Lib.hid hVL
      clear hV hVL hjs
      go_wp2_with fail
      go_roundw
      case rel =>
        refine ⟨j + 1, by omega, by go_num, grown_set HG.out k (o + j) _, ?_⟩
        rw [fillRow, HV.out]
        exact row_set HR2.out k (o + j) _
      case measure => simp [intOf]; omega
    · go_wp2_with fail
      have : j = n := by omega
      subst this
      refine bodyPost_end (results_none rfl _ _ _) rfl ⟨rfl, HG.out, HR2.out⟩
end Go.Proofs.Ytkfacnegfkgcgaa
