/-
  Texts of this seat, put together: Kit, FeP, FeK, Rw, QTail, BQ, FeA, FeL, MulP, FeM, Dig, Dig2, PowP, FeI, FeS, FeB, FeQ, Word, QMid, Util.
-/
import Derived.WalkKit
import Derived.WalkSpells
import Derived.WalkLawsBesides
import Derived.Lib.Hide
import Derived.Lib.ConvBytes
import Derived.Deep.QuietTactic
import Derived.BigQuiet
import Derived.Deep.RegionHeld3
import Derived.Deep.LoopGhost
import Derived.Deep.DeepFit
import Derived.Deep.DeepMust
import Derived.Deep.RegionWith
import Derived.StillTailTactics
import Derived.Laws.ResultCell
import Derived.Test.YthlmphloalbhnaaProg
import Derived.Laws.Rows
import Derived.Laws.BitsAllLaws
import Derived.Below
import Derived.Laws.AppendOwn
import Derived.StillTail
import Derived.Deep.Quiet
import Derived.Deep.DeepCutAuto
import Derived.Shelf.Bits.Mul64
import Derived.Shelf.Spec.BitsCarry
import Derived.BigRegion
import Derived.Deep.AppendLies
import Derived.Laws.IdiomStrings

/-
  Small laws that the walks of this seat share: bytes made to a string, blocks known whole, worlds that grow. No program stands in them.
-/
namespace MS
open Go Go.RowKit

/-- A list of bytes as a string, and back. -/
def bs (l : List UInt8) : ByteArray := ⟨l.toArray⟩
def ls (s : ByteArray) : List UInt8 := s.data.toList
theorem bs_ls (s : ByteArray) : bs (ls s) = s := rfl
theorem ls_bs (l : List UInt8) : ls (bs l) = l := rfl
theorem size_bs (l : List UInt8) : (bs l).size = l.length := by show l.toArray.size = _; simp
theorem length_ls (s : ByteArray) : (ls s).length = s.size := by show s.data.toList.length = s.data.size; simp
theorem ls_inj {s t : ByteArray} (h : ls s = ls t) : s = t := by rw [← bs_ls s, ← bs_ls t, h]
theorem bs_append (a b : List UInt8) : bs a ++ bs b = bs (a ++ b) := ByteArray.mk_append_mk a b
theorem ls_append (a b : ByteArray) : ls (a ++ b) = ls a ++ ls b := by
  have h := bs_append (ls a) (ls b)
  rw [bs_ls, bs_ls] at h
  rw [h, ls_bs]
theorem ls_extract (s : ByteArray) (a b : Nat) : ls (s.extract a b) = ((ls s).drop a).take (b - a) := by
  rw [← bs_ls s]
  unfold bs
  rw [ByteArray.extract_mk]
  rfl
theorem get_ls (s : ByteArray) (i : Nat) (h : i < s.size) : s[i] = (ls s)[i]'(by rw [length_ls]; exact h) := rfl

theorem fold_push (ns : List UInt8) : ∀ (s : ByteArray), (ns.map (fun b => (b.toNat : Int))).foldl (fun r n => r.push (UInt8.ofNat n.toNat)) s = s ++ bs ns := by
  induction ns with
  | nil => intro s; apply ls_inj; rw [ls_append]; simp [ls_bs]
  | cons b ns ih =>
    intro s
    simp only [List.map_cons, List.foldl_cons]
    rw [ih]
    apply ls_inj
    rw [ls_append, ls_append, ls_bs, ls_bs]
    have : ls (s.push (UInt8.ofNat (b.toNat : Int).toNat)) = ls s ++ [b] := by
      simp [ls, ByteArray.push]
    rw [this]
    simp

/-- 'string(b)' of bytes whose cells are known. -/
theorem run_bytes_to_string {P : Program} (w : World) (src dst e : TypeId) (hs : P.underlying src = some (.slice e)) (he : P.underlying e = some (.int .u8)) (hd : P.underlying dst = some .string)
    (b off len cap : Nat) (l : List UInt8) (hl : l.length = len) (hc : ∀ j (h : j < l.length), w.cell? ⟨b, off + j, none⟩ = some (.int .u8 (l[j].toNat : Int))) :
    (convert src dst (.slice (some ⟨b, off, none⟩) len cap)).run P w = .ok (.string (bs l)) w := by
  subst hl
  rw [run_convert_bytes_string w src dst e _ _ _ hs he hd]
  have hl : (loadCells ⟨b, off, none⟩ l.length).run P w = .ok ((l.map (fun b => (b.toNat : Int))).map (Value.int .u8)).toArray w := by
    have := run_loadCells_list (P := P) w ⟨b, off, none⟩ ((l.map (fun b => (b.toNat : Int))).map (Value.int .u8)) (fun j v hj => by
      simp only [List.map_map, List.getElem?_map, Option.map_eq_some_iff] at hj
      obtain ⟨x, hx, rfl⟩ := hj
      obtain ⟨h, rfl⟩ := List.getElem?_eq_some_iff.1 hx
      have hadd : (⟨b, off, none⟩ : Addr).add j = ⟨b, off + j, none⟩ := by unfold Addr.add; split <;> simp_all
      rw [hadd, hc j h]; rfl)
    simpa using this
  rw [run_bytesToString w _ _ _ _ hl, fold_push]
  congr 2

/-- A block of bytes, whole: what 'string(b)' makes of it. -/
theorem run_block_to_string {P : Program} (w : World) (src dst e : TypeId) (hs : P.underlying src = some (.slice e)) (he : P.underlying e = some (.int .u8)) (hd : P.underlying dst = some .string)
    (b len cap : Nat) (t : TypeId) (fr : Nat × Nat) (l : List UInt8) (cs : Array Value) (hb : w.heap[b]? = some (.cells cs t fr)) (hl : l.length = len) (hc : ∀ j (h : j < l.length), cs[j]? = some (.int .u8 (l[j].toNat : Int))) :
    (convert src dst (.slice (some ⟨b, 0, none⟩) len cap)).run P w = .ok (.string (bs l)) w := by
  refine run_bytes_to_string w src dst e hs he hd b 0 len cap l hl (fun j h => ?_)
  rw [Nat.zero_add, cell_of_row w b j cs t fr hb, hc j h]
/-- 'string([]byte{x})' and 'string([]byte{x, y})' over the block just made. -/
theorem run_one_to_string {P : Program} (src dst e : TypeId) (hs : P.underlying src = some (.slice e)) (he : P.underlying e = some (.int .u8)) (hd : P.underlying dst = some .string) (w : World) (x : UInt8) :
    (convert src dst (.slice (some ⟨w.heap.size, 0, none⟩) 1 1)).run P (w.alloc (.cells #[.int .u8 (x.toNat : Int)] e)) = .ok (.string (bs [x])) (w.alloc (.cells #[.int .u8 (x.toNat : Int)] e)) := by
  refine run_block_to_string _ src dst e hs he hd _ 1 1 e (0, 0) [x] _ (heap_alloc_new w _) rfl (fun j h => ?_)
  match j, h with
  | 0, _ => rfl
theorem run_two_to_string {P : Program} (src dst e : TypeId) (hs : P.underlying src = some (.slice e)) (he : P.underlying e = some (.int .u8)) (hd : P.underlying dst = some .string) (w : World) (x y : UInt8) :
    (convert src dst (.slice (some ⟨w.heap.size, 0, none⟩) 2 2)).run P (w.alloc (.cells #[.int .u8 (x.toNat : Int), .int .u8 (y.toNat : Int)] e)) = .ok (.string (bs [x, y])) (w.alloc (.cells #[.int .u8 (x.toNat : Int), .int .u8 (y.toNat : Int)] e)) := by
  refine run_block_to_string _ src dst e hs he hd _ 2 2 e (0, 0) [x, y] _ (heap_alloc_new w _) rfl (fun j h => ?_)
  match j, h with
  | 0, _ => rfl
  | 1, _ => rfl

theorem u8_of (n : Int) (h0 : 0 ≤ n) (h1 : n ≤ 255) : ((UInt8.ofNat n.toNat).toNat : Int) = n := by
  rw [UInt8.toNat_ofNat']; omega
theorem run_one_int {P : Program} (src dst e : TypeId) (hs : P.underlying src = some (.slice e)) (he : P.underlying e = some (.int .u8)) (hd : P.underlying dst = some .string) (n : Int) (h0 : 0 ≤ n) (h1 : n ≤ 255) (w : World) (b : Nat) (hb : w.heap.size = b) :
    (convert src dst (.slice (some ⟨b, 0, none⟩) 1 1)).run P (w.alloc (.cells #[.int .u8 n] e)) = .ok (.string (bs [UInt8.ofNat n.toNat])) (w.alloc (.cells #[.int .u8 n] e)) := by
  subst hb
  have h := run_one_to_string (P := P) src dst e hs he hd w (UInt8.ofNat n.toNat)
  rwa [u8_of n h0 h1] at h
theorem run_two_int {P : Program} (src dst e : TypeId) (hs : P.underlying src = some (.slice e)) (he : P.underlying e = some (.int .u8)) (hd : P.underlying dst = some .string) (n m : Int) (h0 : 0 ≤ n) (h1 : n ≤ 255) (h2 : 0 ≤ m) (h3 : m ≤ 255) (w : World) (b : Nat) (hb : w.heap.size = b) :
    (convert src dst (.slice (some ⟨b, 0, none⟩) 2 2)).run P (w.alloc (.cells #[.int .u8 n, .int .u8 m] e)) = .ok (.string (bs [UInt8.ofNat n.toNat, UInt8.ofNat m.toNat])) (w.alloc (.cells #[.int .u8 n, .int .u8 m] e)) := by
  subst hb
  have h := run_two_to_string (P := P) src dst e hs he hd w (UInt8.ofNat n.toNat) (UInt8.ofNat m.toNat)
  rwa [u8_of n h0 h1, u8_of m h2 h3] at h

theorem bcell {W w1 : World} (hb : Below W.heap.size W w1) : (∀ b o, b < W.heap.size → w1.cell? ⟨b, o, none⟩ = W.cell? ⟨b, o, none⟩) ∧ (∀ b o, b < W.heap.size → w1.frozen? ⟨b, o, none⟩ = W.frozen? ⟨b, o, none⟩) :=
  ⟨fun b o h => hb.cell (p := ⟨b, o, none⟩) h, fun b o h => hb.frozen (p := ⟨b, o, none⟩) h⟩
theorem below_chain {w a b : World} (h : Below w.heap.size w a) (h2 : Below a.heap.size a b) : Below w.heap.size w b := h.trans (h2.mono h.size)
theorem below_alloc {w a : World} (h : Below w.heap.size w a) (o : Obj) : Below w.heap.size w (a.alloc o) := h.alloc h.size o
theorem below_setCell {w a : World} (h : Below w.heap.size w a) {p : Addr} (hp : w.heap.size ≤ p.block) (u : Value) : Below w.heap.size w (a.setCell p u) := h.setCell hp u
/-- The call's own first blocks, in a later world. -/
theorem own1 {w v : World} {X : Obj} (K : Below (w.alloc X).heap.size (w.alloc X) v) :
    (∀ o, v.cell? ⟨w.heap.size, o, none⟩ = (w.alloc X).cell? ⟨w.heap.size, o, none⟩) ∧ (∀ o, v.frozen? ⟨w.heap.size, o, none⟩ = (w.alloc X).frozen? ⟨w.heap.size, o, none⟩) ∧ w.heap.size < v.heap.size := by
  have hs : (w.alloc X).heap.size = w.heap.size + 1 := by simp
  have h := K.size
  rw [hs] at h
  exact ⟨fun o => K.cell (p := ⟨w.heap.size, o, none⟩) (by rw [hs]; exact Nat.lt_succ_self _), fun o => K.frozen (p := ⟨w.heap.size, o, none⟩) (by rw [hs]; exact Nat.lt_succ_self _), h⟩
theorem own2 {w v : World} {X Y : Obj} (K : Below ((w.alloc X).alloc Y).heap.size ((w.alloc X).alloc Y) v) :
    (∀ o, v.cell? ⟨w.heap.size, o, none⟩ = ((w.alloc X).alloc Y).cell? ⟨w.heap.size, o, none⟩) ∧ (∀ o, v.frozen? ⟨w.heap.size, o, none⟩ = ((w.alloc X).alloc Y).frozen? ⟨w.heap.size, o, none⟩) ∧
    (∀ o, v.cell? ⟨w.heap.size + 1, o, none⟩ = ((w.alloc X).alloc Y).cell? ⟨w.heap.size + 1, o, none⟩) ∧ (∀ o, v.frozen? ⟨w.heap.size + 1, o, none⟩ = ((w.alloc X).alloc Y).frozen? ⟨w.heap.size + 1, o, none⟩) ∧ w.heap.size < v.heap.size ∧ w.heap.size + 1 < v.heap.size := by
  have hs : ((w.alloc X).alloc Y).heap.size = w.heap.size + 1 + 1 := by simp
  have h := K.size
  rw [hs] at h
  exact ⟨fun o => K.cell (p := ⟨w.heap.size, o, none⟩) (by rw [hs]; show w.heap.size < _; omega), fun o => K.frozen (p := ⟨w.heap.size, o, none⟩) (by rw [hs]; show w.heap.size < _; omega),
    fun o => K.cell (p := ⟨w.heap.size + 1, o, none⟩) (by rw [hs]; show w.heap.size + 1 < _; omega), fun o => K.frozen (p := ⟨w.heap.size + 1, o, none⟩) (by rw [hs]; show w.heap.size + 1 < _; omega), by omega, by omega⟩
theorem extract_head (s : ByteArray) (p n : Nat) (h : p + n ≤ s.size) : (s.extract p s.size).extract 0 n = s.extract p (p + n) := by
  apply ls_inj
  rw [ls_extract, ls_extract, ls_extract, List.drop_zero, List.take_take]
  congr 1
  omega
theorem extract_tail (s : ByteArray) (p n : Nat) (h : p + n ≤ s.size) : (s.extract p s.size).extract n (s.size - p) = s.extract (p + n) s.size := by
  apply ls_inj
  rw [ls_extract, ls_extract, ls_extract, List.drop_take, List.drop_drop, List.take_take]
  congr 1
  omega
theorem size_extract_to (s : ByteArray) (p : Nat) : (s.extract p s.size).size = s.size - p := by
  rw [ByteArray.size_extract]; omega
theorem isEmpty_size (b : ByteArray) : b.toList.isEmpty = (b.size == 0) := by
  rw [ByteArray.toList_eq, Bool.eq_iff_iff]
  simp only [List.isEmpty_iff, beq_iff_eq]
  rw [← List.length_eq_zero_iff, Array.length_toList]
  rfl
theorem toList_nil (b : ByteArray) : b.toList = [] ↔ b.size = 0 := by
  rw [← List.isEmpty_iff, isEmpty_size]; simp
theorem beq_cast (a b : Nat) : ((a : Int) == (b : Int)) = (a == b) := by rw [Bool.eq_iff_iff]; simp; omega
theorem beq0 (a : Nat) : ((a : Int) == 0) = (a == 0) := beq_cast a 0
theorem size_empty (b : ByteArray) : b = ByteArray.empty ↔ b.size = 0 := by
  refine ⟨fun h => by rw [h]; rfl, fun h => ls_inj ?_⟩
  have : (ls b).length = 0 := by rw [length_ls]; exact h
  rw [List.eq_nil_of_length_eq_zero this]; rfl
theorem take_snoc (s : ByteArray) (k : Nat) (h : k < s.size) : s.data.toList.take (k + 1) = s.data.toList.take k ++ [s[k]] := by
  rw [List.take_succ_eq_append_getElem (by simpa using h)]; rfl
end MS

namespace MS
abbrev Q' : Nat := 57896044618658097711785492504343953926634992332820282019728792003956564819949
/-- Five limbs of 51 bits. -/
structure N5 where
  a : Nat
  b : Nat
  c : Nat
  d : Nat
  e : Nat
def N5.v (x : N5) : Nat := x.a + 2251799813685248 * x.b + 5070602400912917605986812821504 * x.c + 11417981541647679048466287755595961091061972992 * x.d + 25711008708143844408671393477458601640355247900524685364822016 * x.e
/-- Any limbs of 64 bits. -/
def N5.ok (x : N5) : Prop := x.a < 18446744073709551616 ∧ x.b < 18446744073709551616 ∧ x.c < 18446744073709551616 ∧ x.d < 18446744073709551616 ∧ x.e < 18446744073709551616
/-- Narrow ones: each below 2^51 + 2^18. -/
def N5.nar (x : N5) : Prop := x.a < 2251799813947392 ∧ x.b < 2251799813947392 ∧ x.c < 2251799813947392 ∧ x.d < 2251799813947392 ∧ x.e < 2251799813947392
/-- Least ones: each below 2^51. -/
def N5.lst (x : N5) : Prop := x.a < 2251799813685248 ∧ x.b < 2251799813685248 ∧ x.c < 2251799813685248 ∧ x.d < 2251799813685248 ∧ x.e < 2251799813685248

def narrow (x : N5) : N5 :=
  ⟨x.a % 2251799813685248 + 19 * (x.e / 2251799813685248), x.b % 2251799813685248 + x.a / 2251799813685248, x.c % 2251799813685248 + x.b / 2251799813685248,
   x.d % 2251799813685248 + x.c / 2251799813685248, x.e % 2251799813685248 + x.d / 2251799813685248⟩
theorem narrow_nar {x : N5} (h : x.ok) : (narrow x).nar := by
  obtain ⟨h1, h2, h3, h4, h5⟩ := h
  refine ⟨?_, ?_, ?_, ?_, ?_⟩ <;> simp only [narrow] <;> omega
theorem narrow_v (x : N5) : (narrow x).v + x.e / 2251799813685248 * Q' = x.v := by
  obtain ⟨a, b, c, d, e⟩ := x
  simp only [narrow, N5.v, Q']
  omega
theorem narrow_mod (x : N5) : (narrow x).v % Q' = x.v % Q' := by
  rw [← narrow_v x, Nat.add_mul_mod_self_right]
theorem nar_ok {x : N5} (h : x.nar) : x.ok := by
  obtain ⟨h1, h2, h3, h4, h5⟩ := h
  exact ⟨by omega, by omega, by omega, by omega, by omega⟩

def over (x : N5) : Nat :=
  ((((( x.a + 19) / 2251799813685248 + x.b) / 2251799813685248 + x.c) / 2251799813685248 + x.d) / 2251799813685248 + x.e) / 2251799813685248
def carried (x : N5) (k : Nat) : N5 :=
  let s0 := x.a + k
  let s1 := x.b + s0 / 2251799813685248
  let s2 := x.c + s1 / 2251799813685248
  let s3 := x.d + s2 / 2251799813685248
  let s4 := x.e + s3 / 2251799813685248
  ⟨s0 % 2251799813685248, s1 % 2251799813685248, s2 % 2251799813685248, s3 % 2251799813685248, s4 % 2251799813685248⟩
def least (x : N5) : N5 := carried (narrow x) (19 * over (narrow x))
theorem carried_lst (x : N5) (k : Nat) : (carried x k).lst := by
  refine ⟨?_, ?_, ?_, ?_, ?_⟩ <;> simp only [carried] <;> exact Nat.mod_lt _ (by decide)
theorem carried_v (x : N5) (k : Nat) : (carried x k).v = (x.v + k) % 57896044618658097711785492504343953926634992332820282019728792003956564819968 := by
  obtain ⟨a, b, c, d, e⟩ := x
  simp only [carried, N5.v]
  omega
theorem over_v (x : N5) : over x = (x.v + 19) / 57896044618658097711785492504343953926634992332820282019728792003956564819968 := by
  obtain ⟨a, b, c, d, e⟩ := x
  simp only [over, N5.v]
  omega
theorem nar_v_lt {x : N5} (h : x.nar) : x.v < 2 * Q' := by
  obtain ⟨a, b, c, d, e⟩ := x
  obtain ⟨h1, h2, h3, h4, h5⟩ := h
  simp only at h1 h2 h3 h4 h5
  simp only [N5.v, Q']
  omega
theorem least_v {x : N5} (h : x.ok) : (least x).v = x.v % Q' := by
  have h1 := nar_v_lt (narrow_nar h)
  rw [← narrow_mod x, least, carried_v, over_v]
  generalize (narrow x).v = n at *
  simp only [Q'] at *
  by_cases hn : n < 57896044618658097711785492504343953926634992332820282019728792003956564819949
  · have e0 : (n + 19) / 57896044618658097711785492504343953926634992332820282019728792003956564819968 = 0 := by omega
    rw [e0]; omega
  · have e1 : (n + 19) / 57896044618658097711785492504343953926634992332820282019728792003956564819968 = 1 := by omega
    rw [e1]; omega
theorem least_lst (x : N5) : (least x).lst := carried_lst _ _

/-- Products: the five columns. -/
def col0 (x y : N5) : Nat := x.a * y.a + x.b * (y.e * 19) + x.c * (y.d * 19) + x.d * (y.c * 19) + x.e * (y.b * 19)
def col1 (x y : N5) : Nat := x.a * y.b + x.b * y.a + x.c * (y.e * 19) + x.d * (y.d * 19) + x.e * (y.c * 19)
def col2 (x y : N5) : Nat := x.a * y.c + x.b * y.b + x.c * y.a + x.d * (y.e * 19) + x.e * (y.d * 19)
def col3 (x y : N5) : Nat := x.a * y.d + x.b * y.c + x.c * y.b + x.d * y.a + x.e * (y.e * 19)
def col4 (x y : N5) : Nat := x.a * y.e + x.b * y.d + x.c * y.c + x.d * y.b + x.e * y.a
def folded (c0 c1 c2 c3 c4 : Nat) : N5 :=
  ⟨c0 % 2251799813685248 + 19 * (c4 / 2251799813685248), c1 % 2251799813685248 + c0 / 2251799813685248, c2 % 2251799813685248 + c1 / 2251799813685248,
   c3 % 2251799813685248 + c2 / 2251799813685248, c4 % 2251799813685248 + c3 / 2251799813685248⟩
def mulN (x y : N5) : N5 := folded (col0 x y) (col1 x y) (col2 x y) (col3 x y) (col4 x y)
def mul (x y : N5) : N5 := narrow (mulN (narrow x) (narrow y))

theorem prod_lt {x y : Nat} (hx : x < 2251799813947392) (hy : y < 42784196465000448) : x * y ≤ 96342447615577040000000000000000 := by
  have := Nat.mul_le_mul (Nat.le_of_lt_succ hx) (Nat.le_of_lt_succ hy)
  omega
theorem prod_lt19 {x y : Nat} (hx : x < 2251799813947392) (hy : y < 2251799813947392) : x * (y * 19) ≤ 96342447615577040000000000000000 := prod_lt hx (by omega)
theorem prod_lt1 {x y : Nat} (hx : x < 2251799813947392) (hy : y < 2251799813947392) : x * y ≤ 96342447615577040000000000000000 := prod_lt hx (by omega)
/-- Each column is below 2^109. -/
theorem cols_lt {x y : N5} (hx : x.nar) (hy : y.nar) :
    col0 x y < 649037107316853453566312041152512 ∧ col1 x y < 649037107316853453566312041152512 ∧ col2 x y < 649037107316853453566312041152512 ∧ col3 x y < 649037107316853453566312041152512 ∧ col4 x y < 649037107316853453566312041152512 := by
  obtain ⟨h1, h2, h3, h4, h5⟩ := hx
  obtain ⟨k1, k2, k3, k4, k5⟩ := hy
  unfold col0 col1 col2 col3 col4
  refine ⟨?_, ?_, ?_, ?_, ?_⟩
  · have := prod_lt1 h1 k1; have := prod_lt19 h2 k5; have := prod_lt19 h3 k4; have := prod_lt19 h4 k3; have := prod_lt19 h5 k2; omega
  · have := prod_lt1 h1 k2; have := prod_lt1 h2 k1; have := prod_lt19 h3 k5; have := prod_lt19 h4 k4; have := prod_lt19 h5 k3; omega
  · have := prod_lt1 h1 k3; have := prod_lt1 h2 k2; have := prod_lt1 h3 k1; have := prod_lt19 h4 k5; have := prod_lt19 h5 k4; omega
  · have := prod_lt1 h1 k4; have := prod_lt1 h2 k3; have := prod_lt1 h3 k2; have := prod_lt1 h4 k1; have := prod_lt19 h5 k5; omega
  · have := prod_lt1 h1 k5; have := prod_lt1 h2 k4; have := prod_lt1 h3 k3; have := prod_lt1 h4 k2; have := prod_lt1 h5 k1; omega
theorem folded_ok {c0 c1 c2 c3 c4 : Nat} (h0 : c0 < 649037107316853453566312041152512) (h1 : c1 < 649037107316853453566312041152512) (h2 : c2 < 649037107316853453566312041152512) (h3 : c3 < 649037107316853453566312041152512) (h4 : c4 < 649037107316853453566312041152512) :
    (folded c0 c1 c2 c3 c4).ok := by
  refine ⟨?_, ?_, ?_, ?_, ?_⟩ <;> simp only [folded] <;> omega
theorem folded_v (c0 c1 c2 c3 c4 : Nat) : (folded c0 c1 c2 c3 c4).v + c4 / 2251799813685248 * Q' = (⟨c0, c1, c2, c3, c4⟩ : N5).v := by
  simp only [folded, N5.v, Q']
  omega
theorem cols_v (x y : N5) : (⟨col0 x y, col1 x y, col2 x y, col3 x y, col4 x y⟩ : N5).v +
    Q' * (x.b * y.e + x.c * y.d + x.d * y.c + x.e * y.b + 2251799813685248 * (x.c * y.e + x.d * y.d + x.e * y.c) + 5070602400912917605986812821504 * (x.d * y.e + x.e * y.d) + 11417981541647679048466287755595961091061972992 * (x.e * y.e)) = x.v * y.v := by
  simp only [N5.v, col0, col1, col2, col3, col4, Q']
  grind
theorem mulN_mod (x y : N5) : (mulN x y).v % Q' = x.v * y.v % Q' := by
  rw [← cols_v x y, Nat.add_mul_mod_self_left, ← folded_v (col0 x y) (col1 x y) (col2 x y) (col3 x y) (col4 x y), Nat.add_mul_mod_self_right]
  rfl
theorem mulN_ok {x y : N5} (hx : x.nar) (hy : y.nar) : (mulN x y).ok := by
  obtain ⟨h0, h1, h2, h3, h4⟩ := cols_lt hx hy
  exact folded_ok h0 h1 h2 h3 h4
theorem mul_mod (x y : N5) : (mul x y).v % Q' = x.v * y.v % Q' := by
  rw [mul, narrow_mod, mulN_mod, Nat.mul_mod, narrow_mod, narrow_mod, ← Nat.mul_mod]
theorem mul_nar {x y : N5} (hx : x.ok) (hy : y.ok) : (mul x y).nar := narrow_nar (mulN_ok (narrow_nar hx) (narrow_nar hy))

def addN (x y : N5) : N5 := ⟨x.a + y.a, x.b + y.b, x.c + y.c, x.d + y.d, x.e + y.e⟩
def add (x y : N5) : N5 := narrow (addN (narrow x) (narrow y))
theorem addN_ok {x y : N5} (hx : x.nar) (hy : y.nar) : (addN x y).ok := by
  obtain ⟨h1, h2, h3, h4, h5⟩ := hx
  obtain ⟨k1, k2, k3, k4, k5⟩ := hy
  refine ⟨?_, ?_, ?_, ?_, ?_⟩ <;> simp only [addN] <;> omega
theorem add_mod (x y : N5) : (add x y).v % Q' = (x.v + y.v) % Q' := by
  have e : (addN (narrow x) (narrow y)).v = (narrow x).v + (narrow y).v := by simp only [N5.v, addN]; omega
  rw [add, narrow_mod, e, Nat.add_mod, narrow_mod, narrow_mod, ← Nat.add_mod]
theorem add_nar {x y : N5} (hx : x.ok) (hy : y.ok) : (add x y).nar := narrow_nar (addN_ok (narrow_nar hx) (narrow_nar hy))
/-- Twice the prime, less y. -/
def subN (x y : N5) : N5 := ⟨x.a + (4503599627370458 - y.a), x.b + (4503599627370494 - y.b), x.c + (4503599627370494 - y.c), x.d + (4503599627370494 - y.d), x.e + (4503599627370494 - y.e)⟩
def sub (x y : N5) : N5 := narrow (subN (narrow x) (narrow y))
theorem subN_ok {x y : N5} (hx : x.nar) : (subN x y).ok := by
  obtain ⟨h1, h2, h3, h4, h5⟩ := hx
  refine ⟨?_, ?_, ?_, ?_, ?_⟩ <;> simp only [subN] <;> omega
theorem subN_v {x y : N5} (hy : y.nar) : (subN x y).v + y.v = x.v + 2 * Q' := by
  obtain ⟨h1, h2, h3, h4, h5⟩ := hy
  obtain ⟨a, b, c, d, e⟩ := x
  obtain ⟨a', b', c', d', e'⟩ := y
  simp only [N5.v, subN, Q'] at *
  omega
theorem sub_mod {x y : N5} (hy : y.ok) : ((sub x y).v + y.v) % Q' = x.v % Q' := by
  have e := subN_v (x := narrow x) (narrow_nar hy)
  rw [Nat.add_mod, sub, narrow_mod, ← narrow_mod y, ← Nat.add_mod, e, Nat.add_mul_mod_self_right, narrow_mod]
theorem sub_nar {x y : N5} (hx : x.ok) : (sub x y).nar := narrow_nar (subN_ok (narrow_nar hx))
end MS

/-
  Numbers of fe in a walk: five limbs; fe.narrow.
-/
namespace Go.Proofs.Ythlmphloalbhnaa
open Go.RowKit MS

/-- A number's five cells. -/
def nvA (x : N5) : Array Value := #[.int .u64 (x.a : Int), .int .u64 (x.b : Int), .int .u64 (x.c : Int), .int .u64 (x.d : Int), .int .u64 (x.e : Int)]
theorem and51 (a : Nat) (h : a < 18446744073709551616) : bits .and .u64 (a : Int) 2251799813685247 = ((a % 2251799813685248 : Nat) : Int) := by
  have := u64_and_nat a 2251799813685247 h (by decide)
  rw [show ((2251799813685247 : Nat) : Int) = 2251799813685247 from rfl] at this
  rw [this, show (2251799813685247 : Nat) = 2 ^ 51 - 1 from rfl, Nat.and_two_pow_sub_one_eq_mod]
theorem shr51 (a : Nat) : (a : Int) / 2251799813685248 = ((a / 2251799813685248 : Nat) : Int) := by omega

set_option maxRecDepth 100000 in
set_option maxHeartbeats 1000000 in
theorem narrow_any (x : N5) (hx : x.ok) (w : World) :
    Calls Try.prog 39 #[.agg (nvA x)] w fun e w' => e = .returned (.agg (nvA (narrow x))) ∧ Below w.heap.size w w' := by
  obtain ⟨a, b, c, d, e⟩ := x
  obtain ⟨ha, hb, hc, hd, he⟩ := hx
  simp only at ha hb hc hd he
  have a0 := and51 a ha
  have b0 := and51 b hb
  have c0 := and51 c hc
  have d0 := and51 d hd
  have e0 := and51 e he
  have a1 := shr51 a
  have b1 := shr51 b
  have c1 := shr51 c
  have d1 := shr51 d
  have e1 := shr51 e
  have HR := Lib.hid (show nvA (narrow ⟨a, b, c, d, e⟩) = nvA ⟨a % 2251799813685248 + 19 * (e / 2251799813685248), b % 2251799813685248 + a / 2251799813685248, c % 2251799813685248 + b / 2251799813685248, d % 2251799813685248 + c / 2251799813685248, e % 2251799813685248 + d / 2251799813685248⟩ from rfl)
  have la : a % 2251799813685248 < 2251799813685248 := Nat.mod_lt _ (by decide)
  have lb : b % 2251799813685248 < 2251799813685248 := Nat.mod_lt _ (by decide)
  have lc : c % 2251799813685248 < 2251799813685248 := Nat.mod_lt _ (by decide)
  have ld : d % 2251799813685248 < 2251799813685248 := Nat.mod_lt _ (by decide)
  have le : e % 2251799813685248 < 2251799813685248 := Nat.mod_lt _ (by decide)
  have ma : a / 2251799813685248 < 8192 := by omega
  have mb : b / 2251799813685248 < 8192 := by omega
  have mc : c / 2251799813685248 < 8192 := by omega
  have md : d / 2251799813685248 < 8192 := by omega
  have me : e / 2251799813685248 < 8192 := by omega
  generalize a % 2251799813685248 = al at *
  generalize b % 2251799813685248 = bl at *
  generalize c % 2251799813685248 = cl at *
  generalize d % 2251799813685248 = dl at *
  generalize e % 2251799813685248 = el at *
  generalize a / 2251799813685248 = ah at *
  generalize b / 2251799813685248 = bh at *
  generalize c / 2251799813685248 = ch at *
  generalize d / 2251799813685248 = dh at *
  generalize e / 2251799813685248 = eh at *
  clear ha hb hc hd he
  rw [HR.out]
  unfold nvA
  simp only
  go_enter Try.func39, Try.ntmps39
  go_wp2_with fail
  exact bodyPost_ret (v := .agg #[.int .u64 ((al : Int) + 19 * (eh : Int)), .int .u64 ((bl : Int) + (ah : Int)), .int .u64 ((cl : Int) + (bh : Int)), .int .u64 ((dl : Int) + (ch : Int)), .int .u64 ((el : Int) + (dh : Int))]) (by simp [results, Try.results39, go_sem]) rfl ⟨rfl, ((Below.refl _ _).alloc (Nat.le_refl _) _).alloc (by simp) _⟩
end Go.Proofs.Ythlmphloalbhnaa

/-
  Blocks of the call's own, each known whole: what a walk keeps of them behind stores, calls and allocations.
-/
namespace MS
open Go Go.RowKit
/-- A block: its number, its cells, their type. -/
abbrev Blk := Nat × Array Value × TypeId
structure Rw (w0 : World) (l : List Blk) (w : World) : Prop where
  nd : (l.map (·.1)).Nodup
  ge : ∀ r ∈ l, w0.heap.size ≤ r.1
  rows : ∀ r ∈ l, w.heap[r.1]? = some (.cells r.2.1 r.2.2 (0, 0))
  bel : Below w0.heap.size w0 w
theorem Rw.nil (w : World) : Rw w [] w := ⟨by simp, by simp, by simp, Below.refl _ _⟩
theorem Rw.lt {w0 w : World} {l : List Blk} (h : Rw w0 l w) (r : Blk) (hr : r ∈ l) : r.1 < w.heap.size := (Array.getElem?_eq_some_iff.1 (h.rows r hr)).1
theorem Rw.on {w0 w w' : World} {l : List Blk} (h : Rw w0 l w) (hb : Below w.heap.size w w') : Rw w0 l w' :=
  ⟨h.nd, h.ge, fun r hr => (hb.block _ (h.lt r hr)).trans (h.rows r hr), h.bel.trans (hb.mono h.bel.size)⟩
theorem Rw.drew {w0 w : World} {l : List Blk} (h : Rw w0 l w) : Rw w0 l w.drew := ⟨h.nd, h.ge, h.rows, h.bel.drew⟩
theorem Rw.drewN {w0 w : World} {l : List Blk} (h : Rw w0 l w) (k : Nat) : Rw w0 l (w.drewN k) := ⟨h.nd, h.ge, h.rows, ⟨h.bel.os, h.bel.tape, h.bel.output, h.bel.size, h.bel.block⟩⟩
theorem Rw.alloc {w0 w : World} {l : List Blk} (h : Rw w0 l w) (cs : Array Value) (T : TypeId) : Rw w0 (l ++ [(w.heap.size, cs, T)]) (w.alloc (.cells cs T (0, 0))) := by
  refine ⟨?_, ?_, ?_, h.bel.alloc h.bel.size _⟩
  · rw [List.map_append, List.nodup_append]
    refine ⟨h.nd, by simp, ?_⟩
    intro a ha b hb
    obtain ⟨r, hr, rfl⟩ := List.mem_map.1 ha
    simp only [List.map_cons, List.map_nil, List.mem_singleton] at hb
    have := h.lt r hr
    omega
  · intro r hr
    rcases List.mem_append.1 hr with h1 | h1
    · exact h.ge r h1
    · rw [List.mem_singleton.1 h1]; exact h.bel.size
  · intro r hr
    rcases List.mem_append.1 hr with h1 | h1
    · exact ((MapKept.heap_alloc w _).2 _ (h.lt r h1)).trans (h.rows r h1)
    · rw [List.mem_singleton.1 h1]; exact (MapKept.heap_alloc w _).1
/-- Blocks of no interest, made in between. -/
theorem Rw.alloc_other {w0 w : World} {l : List Blk} (h : Rw w0 l w) (o : Obj) : Rw w0 l (w.alloc o) := h.on ((Below.refl _ _).alloc (Nat.le_refl _) o)
theorem Rw.drop {w0 w : World} {l : List Blk} {r : Blk} (h : Rw w0 (r :: l) w) : Rw w0 l w :=
  ⟨(List.nodup_cons.1 h.nd).2, fun s hs => h.ge s (List.mem_cons_of_mem _ hs), fun s hs => h.rows s (List.mem_cons_of_mem _ hs), h.bel⟩
theorem Rw.row {w0 w : World} {l : List Blk} (h : Rw w0 l w) (i : Nat) {g : Nat} {cs : Array Value} {T : TypeId} (hi : l[i]? = some (g, cs, T) := by rfl) : w.heap[g]? = some (.cells cs T (0, 0)) := h.rows _ (List.mem_of_getElem? hi)
theorem Rw.cell {w0 w : World} {l : List Blk} (h : Rw w0 l w) (i j : Nat) {g : Nat} {cs : Array Value} {T : TypeId} {v : Value} (hv : cs[j]? = some v) (hi : l[i]? = some (g, cs, T) := by rfl) : w.cell? ⟨g, j, none⟩ = some v := by
  rw [cell_of_row w g j cs T (0, 0) (h.row i hi), hv]
theorem Rw.free {w0 w : World} {l : List Blk} (h : Rw w0 l w) (i j : Nat) {g : Nat} {cs : Array Value} {T : TypeId} (hi : l[i]? = some (g, cs, T) := by rfl) : w.frozen? ⟨g, j, none⟩ = false := frozen_of_row w g j cs T (h.row i hi)
theorem set_map (l : List Blk) (i g : Nat) (cs cs' : Array Value) (T : TypeId) (hi : l[i]? = some (g, cs, T)) : (l.set i (g, cs', T)).map (·.1) = l.map (·.1) := by
  apply List.ext_getElem?
  intro j
  rw [List.getElem?_map, List.getElem?_set, List.getElem?_map]
  by_cases e : i = j
  · subst e
    have hl : i < l.length := (List.getElem?_eq_some_iff.1 hi).1
    rw [if_pos rfl, if_pos hl, hi]; rfl
  · rw [if_neg e]
theorem mem_set_cases {l : List Blk} {i : Nat} {b r : Blk} (hr : r ∈ l.set i b) : r = b ∨ ∃ j, j ≠ i ∧ l[j]? = some r := by
  obtain ⟨j, hj⟩ := List.mem_iff_getElem?.1 hr
  rw [List.getElem?_set] at hj
  by_cases e : i = j
  · rw [if_pos e] at hj
    split at hj
    · exact .inl (Option.some.inj hj).symm
    · cases hj
  · rw [if_neg e] at hj
    exact .inr ⟨j, fun h => e h.symm, hj⟩
theorem nodup_ne {l : List Blk} (h : (l.map (·.1)).Nodup) {i j : Nat} {a b : Blk} (hi : l[i]? = some a) (hj : l[j]? = some b) (hne : j ≠ i) : b.1 ≠ a.1 := by
  intro e
  have hi' : (l.map (·.1))[i]? = some a.1 := by rw [List.getElem?_map, hi]; rfl
  have hj' : (l.map (·.1))[j]? = some a.1 := by rw [List.getElem?_map, hj]; exact congrArg some e
  exact hne ((List.getElem?_inj (List.getElem?_eq_some_iff.1 hi').1 h).1 (hi'.trans hj'.symm)).symm
theorem Rw.change {w0 w w' : World} {l : List Blk} (h : Rw w0 l w) (i : Nat) {g : Nat} {cs : Array Value} {T : TypeId} (cs' : Array Value) (hi : l[i]? = some (g, cs, T)) (h1 : w'.heap[g]? = some (.cells cs' T (0, 0)))
    (h2 : ∀ k, k ≠ g → w'.heap[k]? = w.heap[k]?) (hb : Below w0.heap.size w0 w') : Rw w0 (l.set i (g, cs', T)) w' := by
  refine ⟨by rw [set_map l i g cs cs' T hi]; exact h.nd, ?_, ?_, hb⟩
  · intro r hr
    rcases mem_set_cases hr with rfl | ⟨j, _, hj⟩
    · exact h.ge (g, cs, T) (List.mem_of_getElem? hi)
    · exact h.ge _ (List.mem_of_getElem? hj)
  · intro r hr
    rcases mem_set_cases hr with rfl | ⟨j, hne, hj⟩
    · exact h1
    · rw [h2 _ (nodup_ne h.nd hi hj hne)]
      exact h.rows _ (List.mem_of_getElem? hj)
theorem Rw.put {w0 w : World} {l : List Blk} (h : Rw w0 l w) (i j : Nat) (v : Value) {g : Nat} {cs : Array Value} {T : TypeId} (hi : l[i]? = some (g, cs, T) := by rfl) : Rw w0 (l.set i (g, cs.setIfInBounds j v, T)) (w.setCell ⟨g, j, none⟩ v) :=
  h.change i _ hi (heap_setCell_same w g j cs T v (h.row i hi)) (fun _ hk => heap_setCell_other _ _ _ _ hk) (h.bel.setCell (h.ge (g, cs, T) (List.mem_of_getElem? hi)) v)
theorem below_row {B g : Nat} {w0 w : World} (h : Below B w0 w) (hg : B ≤ g) (cs : Array Value) : Below B w0 (w.setRow g cs) :=
  ⟨h.os, h.tape, h.output, by simpa using h.size, fun k hk => by rw [setRow_other _ _ _ _ (by omega)]; exact h.block k hk⟩
theorem Rw.store {w0 w : World} {l : List Blk} (h : Rw w0 l w) (i : Nat) (cs' : Array Value) {g : Nat} {cs : Array Value} {T : TypeId} (hi : l[i]? = some (g, cs, T) := by rfl) : Rw w0 (l.set i (g, cs', T)) (w.setRow g cs') :=
  h.change i _ hi (setRow_heap _ _ _ _ _ _ (h.row i hi)) (fun _ hk => setRow_other _ _ _ _ hk) (below_row h.bel (h.ge (g, cs, T) (List.mem_of_getElem? hi)) _)

/-- Five words of 64 bits. -/
def rowF (f : Nat → Nat) : Array Value := #[.int .u64 (f 0 : Nat), .int .u64 (f 1 : Nat), .int .u64 (f 2 : Nat), .int .u64 (f 3 : Nat), .int .u64 (f 4 : Nat)]
theorem rowF_get (f : Nat → Nat) (j : Nat) (h : j < 5) : (rowF f)[j]? = some (.int .u64 (f j : Nat)) := by
  have : j = 0 ∨ j = 1 ∨ j = 2 ∨ j = 3 ∨ j = 4 := by omega
  rcases this with rfl | rfl | rfl | rfl | rfl <;> rfl
def upd (f : Nat → Nat) (j v : Nat) : Nat → Nat := fun i => if i = j then v else f i
theorem rowF_set (f : Nat → Nat) (j v : Nat) (h : j < 5) : (rowF f).setIfInBounds j (.int .u64 (v : Nat)) = rowF (upd f j v) := by
  have : j = 0 ∨ j = 1 ∨ j = 2 ∨ j = 3 ∨ j = 4 := by omega
  rcases this with rfl | rfl | rfl | rfl | rfl <;> rfl
theorem rowF_congr {f g : Nat → Nat} (h : ∀ i, i < 5 → f i = g i) : rowF f = rowF g := by
  unfold rowF
  rw [h 0 (by decide), h 1 (by decide), h 2 (by decide), h 3 (by decide), h 4 (by decide)]
theorem size_rowF (f : Nat → Nat) : (rowF f).size = 5 := rfl
theorem one_rowF (f : Nat → Nat) : (rowF f).all (·.oneCell') = true := by simp [rowF, Value.oneCell']
/-- A row in whose first j places the new values stand. -/
def prog (F G : Nat → Nat) (j : Nat) : Nat → Nat := fun i => if i < j then G i else F i
theorem prog_zero (F G : Nat → Nat) : prog F G 0 = F := by funext i; simp [prog]
theorem prog_at (F G : Nat → Nat) (j : Nat) : prog F G j j = F j := if_neg (Nat.lt_irrefl j)
theorem prog_set (F G : Nat → Nat) (j : Nat) : upd (prog F G j) j (G j) = prog F G (j + 1) := by
  funext i
  unfold upd prog
  by_cases e : i = j
  · subst e; rw [if_pos rfl, if_pos (Nat.lt_succ_self i)]
  · rw [if_neg e]
    by_cases h : i < j
    · rw [if_pos h, if_pos (by omega)]
    · rw [if_neg h, if_neg (by omega)]
theorem prog_end (F G : Nat → Nat) : rowF (prog F G 5) = rowF G := rowF_congr fun _ hi => if_pos hi
end MS

/-
  A region that draws its order, whose first operations are quiet in a class of worlds (they read; their callees leave a world of the class and hand back one value), and whose last operations stand in one forced order: walked once, in the order of the text.
  (After the guide's own two theorems on quiet regions and on still ones with a tail: the class of the one, the tail of the other.)
-/
namespace MS
open Go Go.RowKit
section
variable {P : Program} {ops : Array Oper} {md : Region.Mode} {C : World → Prop}

def wpAnyLQ (P : Program) (md : Region.Mode) (ops : Array Oper) (C : World → Prop) (n : Nat) (L : Array Bool → Act → Prop) : Nat → Array Bool → Act → Prop
  | 0, listed, a => L listed a
  | f + 1, listed, a =>
    Region.ready md ops listed ≠ [] ∧ ∀ i ∈ Region.ready md ops listed, i < n ∧ qOp P ops C i (wpAnyLQ P md ops C n L f (listed.setIfInBounds i true)) a

theorem wpAny_of_headQ {n g : Nat} {L : Array Bool → Act → Prop} {Q' : Exit → Act → World → Prop} (hL : ∀ listed a w, C w → L listed a → wpAny P md ops Q' g listed a w) :
    ∀ (f : Nat) (listed : Array Bool) (a : Act) (w : World), C w → wpAnyLQ P md ops C n L f listed a → wpAny P md ops Q' (f + g) listed a w
  | 0, listed, a, w, hw, h => by rw [Nat.zero_add]; exact hL _ _ _ hw h
  | f + 1, listed, a, w, hw, h => by
    rw [show f + 1 + g = (f + g) + 1 by omega]
    exact ⟨fun h0 => absurd h0 h.1, fun i hi => wpOp_of_qOp hw (fun a' w' hw' h' => wpAny_of_headQ hL f _ a' w' hw' h') (h.2 i hi).2⟩

theorem wpAnyLQ_first {n i : Nat} {oi : Oper} {v : Value} {L : Array Bool → Act → Prop} (hi : ops[i]? = some oi) (hsel : ∀ (j : Nat) (o : Oper) cs b, ops[j]? = some o → o.op ≠ .select cs b)
    (hs : Region.sinkB md ops n = true) (hc : Region.chainB md ops n = true) (hn : n < ops.size) (hin : i < n)
    (hdone : ∀ listed a, L listed a → ∀ j ∈ Region.ready md ops listed, n ≤ j) :
    ∀ (f : Nat) (listed : Array Bool) (a : Act), HeadInv md ops n listed →
      (∀ j oj, ops[j]? = some oj → j ≠ i → listed.getD j true = false → (∀ e ∈ oj.after, Region.binds md e = true → e.on ≠ i) → oi.apart ops oj = true) →
      i ∈ Region.ready md ops listed → YieldsIn P ops C oi v a →
      wpAnyLQ P md ops C n L f (listed.setIfInBounds i true) (a.put oi.dst v) → wpAnyLQ P md ops C n L (f + 1) listed a := by
  intro f
  induction f with
  | zero =>
    intro listed a inv _ hr hy H
    have hun := (mem_ready.1 hr).1
    refine ⟨fun h => (by rw [h] at hr; cases hr), fun j hj => ?_⟩
    have hjn : j < n := by
      rcases Nat.lt_or_ge j n with h | h
      · exact h
      · exact absurd hj (tail_waits hs hc hn inv _ i rfl hin hun j h)
    refine ⟨hjn, ?_⟩
    by_cases hji : j = i
    · subst hji; exact hy.qOp hi H
    · have := hdone _ _ H j (ready_mono hj hji)
      omega
  | succ f ih =>
    intro listed a inv hfree hr hy H
    have hun := (mem_ready.1 hr).1
    refine ⟨fun h => (by rw [h] at hr; cases hr), fun j hj => ?_⟩
    have hjn : j < n := by
      rcases Nat.lt_or_ge j n with h | h
      · exact h
      · exact absurd hj (tail_waits hs hc hn inv _ i rfl hin hun j h)
    refine ⟨hjn, ?_⟩
    by_cases hji : j = i
    · subst hji; exact hy.qOp hi H
    · have h1 := (H.2 j (ready_mono hj hji)).2
      obtain ⟨hjun, oj, hoj, hall⟩ := mem_ready.1 hj
      have hnot : ∀ e ∈ oj.after, Region.binds md e = true → e.on ≠ i := fun e he hb heq => by
        have h1 := hall e he hb
        rw [heq, getD_both hun] at h1
        cases h1
      have h2 := qOp_put hoj (hfree j oj hoj hji hjun hnot) (fun cs b => hsel i oi cs b hi) (fun cs b => hsel j oj cs b hoj) hy h1
      have hfree' : ∀ k ok, ops[k]? = some ok → k ≠ i → (listed.setIfInBounds j true).getD k true = false →
          (∀ e ∈ ok.after, Region.binds md e = true → e.on ≠ i) → oi.apart ops ok = true := fun k ok hk hki hun hno => by
        refine hfree k ok hk hki ?_ hno
        by_cases hjk : j = k
        · subst hjk; exact hjun
        · rw [getD_set_ne true hjk] at hun; exact hun
      refine qOp_mono (fun a' h3 => ih (listed.setIfInBounds j true) a' (inv.set hj hjn) hfree' (ready_mono hr (Ne.symm hji)) h3.1 ?_) h2
      rw [Array.setIfInBounds_comm _ _ hji]
      exact h3.2

theorem wpAnyLQ_lex {n g : Nat} {Lq : Act → Prop} (hsel : Region.noSelect ops = true) (hs : Region.sinkB md ops n = true) (hc : Region.chainB md ops n = true) (hn : n < ops.size) :
    ∀ (l : List Oper) (k : Nat) (listed : Array Bool) (a : Act), (∀ j, j < l.length → l[j]? = ops[k + j]?) → k + l.length = n → HeadInv md ops n listed →
    Region.lexHead md ops g l.length k listed = true → wpQuiet P ops C Lq l a →
    wpAnyLQ P md ops C n (fun listed' a' => Region.seqB md ops g n listed' = true ∧ Lq a') l.length listed a
  | [], k, listed, a, _, hk, _, hB, h => by
    have : k = n := by simpa using hk
    subst this
    exact ⟨by simpa [Region.lexHead] using hB, h⟩
  | o :: l, k, listed, a, hl, hk, inv, hB, h => by
    have h0 : ops[k]? = some o := by simpa using (hl 0 (by simp)).symm
    simp only [List.length_cons, Region.lexHead, Bool.and_eq_true] at hB
    obtain ⟨⟨hr, hf⟩, hB'⟩ := hB
    have hkn : k < n := by simp only [List.length_cons] at hk; omega
    have hr' : k ∈ Region.ready md ops listed := by simpa using hr
    have hst : qOp P ops C k (wpQuiet P ops C Lq l) a := by unfold qOp; simp only [h0]; exact h
    obtain ⟨v, hy, hK⟩ := yieldsIn_of_qOp h0 hst
    exact wpAnyLQ_first h0 (Region.noSelect_spec hsel) hs hc hn hkn (fun listed' a' hL => seqB_ready hL.1) l.length listed a inv (Region.free_spec h0 hf) hr' hy
      (wpAnyLQ_lex hsel hs hc hn l (k + 1) _ _ (fun j hj => by have := hl (j + 1) (by simp; omega); simpa [Nat.add_assoc, Nat.add_comm 1 j] using this) (by simp only [List.length_cons] at hk; omega) (inv.set hr' hkn) hB' hK)

theorem wp_region_quiet_tail {id : Nat} {Q : Exit → Act → World → Prop} {a : Act} {w : World} {l : List Oper} (n : Nat) (C : World → Prop) (hm : P.follows .mixedOrders = true) (hB : Region.lexTailB .any l.toArray n = true) (hC : C w.drew)
    (h : wpQuiet P l.toArray C (fun a' => ∀ w', C w' → wpList P l.toArray Q (l.drop n) a' w') (l.take n) a) : (Code.region id l.toArray true).wp P Q a w := by
  simp only [Region.lexTailB, Bool.and_eq_true, decide_eq_true_eq] at hB
  obtain ⟨⟨⟨⟨hsel, hn⟩, hs⟩, hc⟩, hlex⟩ := hB
  have hn' : n < l.length := by simpa using hn
  have htl : (l.take n).length = n := by simp; omega
  have hdl : (l.drop n).length = l.toArray.size - n := by simp
  have inv0 : HeadInv .any l.toArray n (Array.replicate l.toArray.size false) :=
    ⟨by simp, fun j oj _ hl => (by rw [getD_replicate_false] at hl; cases hl), fun t _ ht => getD_in (by simpa using ht) (getD_replicate_false _ _)⟩
  have H := wpAnyLQ_lex (md := .any) (g := l.toArray.size - n) hsel hs hc hn (l.take n) 0 _ a (fun j hj => by
    have hj' : j < n := by rw [htl] at hj; exact hj
    simp [hj']) (by simpa using htl) inv0 (by rw [htl]; exact hlex) h
  refine wp_region_any hm ?_
  have := wpAny_of_headQ (Q' := Q) (g := l.toArray.size - n) (fun listed a' w' hw' hL => by
    have := wpAny_of_seq (md := .any) (Q' := Q) (l.drop n) n listed a' w' (fun j => by simp [List.getElem?_drop]) (by rw [hdl]; exact hL.1) (hL.2 w' hw')
    rwa [hdl] at this) _ _ _ w.drew hC H
  rw [htl, show n + (l.toArray.size - n) = l.toArray.size by omega] at this
  exact this

/-- The class of the worlds behind some draws. -/
theorem wp_region_draws_tail {id : Nat} {Q : Exit → Act → World → Prop} {a : Act} {w : World} {l : List Oper} (n : Nat) (hm : P.follows .mixedOrders = true) (hB : Region.lexTailB .any l.toArray n = true)
    (h : wpQuiet P l.toArray (fun w' => ∃ k, w' = w.drewN k) (fun a' => ∀ w', (∃ k, w' = w.drewN k) → wpList P l.toArray Q (l.drop n) a' w') (l.take n) a) : (Code.region id l.toArray true).wp P Q a w :=
  wp_region_quiet_tail n _ hm hB ⟨1, rfl⟩ h
end
end MS

/-
  Regions that draw their order and hold calls which make memory: quiet in the class of the worlds that have grown from the region's own.
-/
namespace MS
open Go Go.RowKit
/-- A world grown from w: what was there is as it was. -/
def BW (w : World) := {x : World // Below w.heap.size w x}
instance (w : World) : Nonempty (BW w) := ⟨⟨w, Below.refl _ _⟩⟩
section
variable {P : Program}
theorem wp_region_below {id : Nat} {Q : Exit → Act → World → Prop} {a : Act} {w : World} {l : List Oper} (hm : P.follows .mixedOrders = true) (hB : Region.lexB .any l.toArray = true)
    (h : wpQuiet P l.toArray (fun w' => ∃ p : BW w, w' = p.1) (fun a' => ∀ w', (∃ p : BW w, w' = p.1) → Q .normal a' w') l a) : (Code.region id l.toArray true).wp P Q a w :=
  wp_region_quiet (C := fun w' => ∃ p : BW w, w' = p.1) hm hB ⟨⟨w.drew, (Below.refl _ _).drew⟩, rfl⟩ (by simpa using h)
theorem wp_region_below_tail {id : Nat} {Q : Exit → Act → World → Prop} {a : Act} {w : World} {l : List Oper} (n : Nat) (hm : P.follows .mixedOrders = true) (hB : Region.lexTailB .any l.toArray n = true)
    (h : wpQuiet P l.toArray (fun w' => ∃ p : BW w, w' = p.1) (fun a' => ∀ w', (∃ p : BW w, w' = p.1) → wpList P l.toArray Q (l.drop n) a' w') (l.take n) a) : (Code.region id l.toArray true).wp P Q a w :=
  wp_region_quiet_tail n _ hm hB ⟨⟨w.drew, (Below.refl _ _).drew⟩, rfl⟩ h
theorem calls_below {f : FuncId} {args : Array Value} {w : World} {p : BW w} {v : Value} (h : Calls P f args p.1 fun e w' => e = .returned v ∧ Below p.1.heap.size p.1 w') :
    Calls P f args p.1 fun e w'' => e = .returned v ∧ ∃ q : BW w, w'' = q.1 :=
  h.mono fun _ w'' ⟨he, hb⟩ => ⟨he, ⟨w'', p.2.trans (hb.mono p.2.size)⟩, rfl⟩
end
end MS

/-
  fe.Add, fe.Sub: the walks.
-/
namespace Go.Proofs.Ythlmphloalbhnaa
open Go.RowKit MS

def getN (x : N5) : Nat → Nat
  | 0 => x.a
  | 1 => x.b
  | 2 => x.c
  | 3 => x.d
  | _ => x.e
theorem nvA_row (x : N5) : nvA x = rowF (getN x) := rfl
theorem infoN (f : Nat → Nat) : (Try.prog.info? 24).map (·.size) = some (rowF f).size := by rw [size_rowF]; kernel_rfl
theorem infoV (x : N5) : (Try.prog.info? 24).map (·.size) = some (nvA x).size := infoN (getN x)
theorem one_nvA (x : N5) : (nvA x).all (·.oneCell') = true := one_rowF (getN x)
theorem size_nvA (x : N5) : (nvA x).size = 5 := rfl
theorem wpQuiet_load_row {P : Program} {ops : Array Oper} {C : World → Prop} {Q : Act → Prop} {a : Act} {o : Oper} {rest : List Oper} (hgd : o.guard = none) (ty : TypeId) (x : Operand) (ho : o.op = .load ty x)
    (g : Nat) (hx : a.eval x = .pointer (some ⟨g, 0, none⟩)) (t : TypeId) (cs : Array Value) (fr : Nat × Nat) (d : TypeDesc) (hC : ∀ w, C w → w.heap[g]? = some (.cells cs t fr))
    (hu : P.underlying ty = some d) (hd : (match d with | .struct _ | .array _ _ => true | _ => false) = true) (hi : (P.info? ty).map (·.size) = some cs.size)
    (h : wpQuiet P ops C Q rest (a.put o.dst (.agg cs))) : wpQuiet P ops C Q (o :: rest) a := by
  show if Region.wanted o (yielded ops a.tmps) = true then _ else _
  rw [if_pos (by simp [Region.wanted, hgd])]
  refine ⟨.agg cs, fun w hw => ?_, h⟩
  unfold Oper.quietAt execOp
  simp only [ho, hx, Instr.loadAt, Instr.sureAddr, Sem.run_bind, Sem.run_pure, Result.andThen_ok, run_loadVar_row w g t ty cs fr d (hC w hw) hu hd hi]
  exact ⟨rfl, rfl⟩
/-- Two boxed numbers and the result's block. -/
theorem rw3 (w : World) (r0 r1 r2 : Array Value) : Rw w [(w.heap.size, r0, 24), (w.heap.size + 1, r1, 24), (w.heap.size + 1 + 1, r2, 24)] (((w.alloc (.cells r0 24 (0, 0))).alloc (.cells r1 24 (0, 0))).alloc (.cells r2 24 (0, 0))) := by
  have h := (((Rw.nil w).alloc r0 24).alloc r1 24).alloc r2 24
  simpa using h

theorem nar_get {x : N5} (h : x.nar) (j : Nat) : getN x j < 2251799813947392 := by
  obtain ⟨h1, h2, h3, h4, h5⟩ := h
  unfold getN
  split <;> assumption

set_option maxRecDepth 100000 in
set_option maxHeartbeats 1000000 in
theorem feadd_any (x y : N5) (hx : x.ok) (hy : y.ok) (w : World) :
    Calls Try.prog 23 #[.agg (nvA x), .agg (nvA y)] w fun e w' => e = .returned (.agg (nvA (add x y))) ∧ Below w.heap.size w w' := by
  have NX := Lib.hid (fun w => narrow_any x hx w)
  have NY := Lib.hid (fun w => narrow_any y hy w)
  have R0 := Lib.hid (rw3 w (nvA x) (nvA y) #[.int .u64 0, .int .u64 0, .int .u64 0, .int .u64 0, .int .u64 0])
  have IX := Lib.hid (infoV x)
  have IY := Lib.hid (infoV y)
  have SX := Lib.hid (size_nvA x)
  have SY := Lib.hid (size_nvA y)
  have BX := Lib.hid (nar_get (narrow_nar hx))
  have BY := Lib.hid (nar_get (narrow_nar hy))
  generalize hrx : nvA x = rx at NX R0 IX SX ⊢
  generalize hry : nvA y = ry at NY R0 IY SY ⊢
  clear hrx hry
  go_enter Try.func23, Try.ntmps23
  go_wp2_with fail
  generalize ((w.alloc (.cells rx 24 (0, 0))).alloc (.cells ry 24 (0, 0))).alloc (.cells #[.int .u64 0, .int .u64 0, .int .u64 0, .int .u64 0, .int .u64 0] 24 (0, 0)) = W at R0 ⊢
  refine wp_region_below_tail 4 (by kernel_rfl) (by kernel_rfl) ?_
  simp only [List.take_succ_cons, List.take_zero, List.drop_succ_cons, List.drop_zero]
  refine wpQuiet_load_row rfl 24 (.tmp 2) rfl w.heap.size rfl 24 rx (0, 0) _ ?hC Try.underlying24 rfl IX.out ?_
  case hC => rintro w' ⟨p, rfl⟩; exact (R0.out.on p.2).row 0
  simp only [Act.put, List.setIfInBounds_toArray, List.set_cons_zero, List.set_cons_succ]
  go_big_quiet_step (exact calls_below (NX.out _))
  refine wpQuiet_load_row rfl 24 (.tmp 3) rfl (w.heap.size + 1) rfl 24 ry (0, 0) _ ?hC2 Try.underlying24 rfl IY.out ?_
  case hC2 => rintro w' ⟨p, rfl⟩; exact (R0.out.on p.2).row 1
  simp only [Act.put, List.setIfInBounds_toArray, List.set_cons_zero, List.set_cons_succ]
  go_big_quiet_step (exact calls_below (NY.out _))
  refine wpQuiet_nil ?_
  rintro _ ⟨p, rfl⟩
  have R1 := Lib.hid (R0.out.on p.2)
  generalize p.1 = wp at R1 ⊢
  have R2 := Lib.hid ((R1.out.store 0 (nvA (narrow x))).store 1 (nvA (narrow y)))
  have R1' := Lib.hid (R1.out.store 0 (nvA (narrow x)))
  have INX := Lib.hid (infoV (narrow x))
  have INY := Lib.hid (infoV (narrow y))
  have ONX := Lib.hid (one_nvA (narrow x))
  have ONY := Lib.hid (one_nvA (narrow y))
  have LX := Lib.hid (show rx.size = (nvA (narrow x)).size by rw [SX.out]; rfl)
  have LY := Lib.hid (show ry.size = (nvA (narrow y)).size by rw [SY.out]; rfl)
  go_wp2_with (first
    | (with_reducible refine wpList_store_row rfl 24 (.tmp 2) (.tmp 7) rfl w.heap.size (nvA (narrow x)) rfl rfl 24 rx ?hg1 INX.out LX.out ONX.out ?_)
    | (with_reducible refine wpList_store_row rfl 24 (.tmp 3) (.tmp 9) rfl (w.heap.size + 1) (nvA (narrow y)) rfl rfl 24 ry ?hg2 INY.out LY.out ONY.out ?_))
  case hg1 => exact R1.out.row 0
  case hg2 => exact R1'.out.row 1
  generalize (World.setRow wp w.heap.size (nvA (narrow x))).setRow (w.heap.size + 1) (nvA (narrow y)) = w2 at R2 ⊢
  have R2 := Lib.hid (show Rw w [(w.heap.size, rowF (getN (narrow x)), 24), (w.heap.size + 1, rowF (getN (narrow y)), 24), (w.heap.size + 1 + 1, #[.int .u64 0, .int .u64 0, .int .u64 0, .int .u64 0, .int .u64 0], 24)] w2 from R2.out)
  clear R0 R1 R1' NX NY IX IY INX INY ONX ONY LX LY SX SY
  have NF := Lib.hid (fun w => narrow_any (addN (narrow x) (narrow y)) (addN_ok (narrow_nar hx) (narrow_nar hy)) w)
  have HOP := Lib.hid (show add x y = narrow (addN (narrow x) (narrow y)) from rfl)
  have HROW := Lib.hid (show rowF (fun i => getN (narrow x) i + getN (narrow y) i) = nvA (addN (narrow x) (narrow y)) from rfl)
  generalize hX : getN (narrow x) = X at *
  generalize hY : getN (narrow y) = Y at *
  generalize addN (narrow x) (narrow y) = S at NF HOP HROW
  clear hX hY hx hy
  generalize hA : w.heap.size = ga at *
  generalize hB : ga + 1 = gb at *
  generalize hC : gb + 1 = gc at *
  clear hB hC
  have HA := Lib.hid hA
  clear hA
  go_loopw [10] (fun i wr => ∃ j : Nat, j ≤ 5 ∧ i = .int .i64 j ∧ Rw w [(ga, rowF (prog X (fun i => X i + Y i) j), 24), (gb, rowF Y, 24), (gc, #[.int .u64 0, .int .u64 0, .int .u64 0, .int .u64 0, .int .u64 0], 24)] wr) (fun i _ => 5 - (intOf i).toNat)
  case atStart => exact ⟨0, by omega, rfl, by rw [prog_zero]; exact R2.out⟩
  case round =>
    obtain ⟨j, hj, rfl, hr⟩ := hrel
    have R3 := Lib.hid hr
    clear hr R2
    by_cases hlt : j < 5
    · have j1 : (j : Int) < 5 := by omega
      have j0 : (0 : Int) ≤ j := by omega
      have ca := R3.out.cell 0 j (rowF_get _ j hlt)
      have cb := R3.out.cell 1 j (rowF_get _ j hlt)
      have fa := R3.out.free 0 j
      rw [prog_at] at ca
      have bx := BX.out j
      have bby := BY.out j
      have put := R3.out.put 0 j (.int .u64 ((X j + Y j : Nat) : Int))
      rw [rowF_set _ _ _ hlt, prog_set X (fun i => X i + Y i) j] at put
      have hs : ((X j + Y j : Nat) : Int) = (X j : Int) + (Y j : Int) := by omega
      rw [hs] at put
      have PUT := Lib.hid put
      have HLT := Lib.hid hlt
      generalize X j = xj at *
      generalize Y j = yj at *
      clear put hlt hs hj
      go_wp2_with fail
      go_still_tail 8, (by kernel_rfl)
      go_wp2_with fail
      go_roundw
      case rel => exact ⟨j + 1, HLT.out, by go_num, PUT.out.drew⟩
      case measure => simp [intOf]; omega
    · have j1 : ¬ ((j : Int) < 5) := by omega
      have hj5 : j = 5 := by omega
      have r4 := R3.out
      rw [hj5, prog_end, HROW.out] at r4
      have R4 := Lib.hid r4
      clear r4 hj5 hlt hj R3
      have IS := Lib.hid (infoV S)
      have IN := Lib.hid (infoV (narrow S))
      have ON := Lib.hid (one_nvA (narrow S))
      have LN := Lib.hid (show (#[.int .u64 0, .int .u64 0, .int .u64 0, .int .u64 0, .int .u64 0] : Array Value).size = (nvA (narrow S)).size from rfl)
      have RW4 := Lib.hid (R4.out.row 0)
      go_wp2_with (with_reducible refine wpList_load_row rfl 24 (.tmp 2) rfl ga rfl 24 (nvA S) (0, 0) _ RW4.out Try.underlying24 rfl IS.out ?_)
      refine (NF.out _).mono ?_
      rintro e w5 ⟨rfl, hb5⟩
      have R5 := Lib.hid (R4.out.on hb5)
      have RW5 := Lib.hid (R5.out.row 2)
      clear hb5
      go_wp2_with (with_reducible refine wpList_store_row rfl 24 (.tmp 4) (.tmp 23) rfl gc (nvA (narrow S)) rfl rfl 24 #[.int .u64 0, .int .u64 0, .int .u64 0, .int .u64 0, .int .u64 0] RW5.out IN.out LN.out ON.out ?_)
      have R6 := R5.out.store 2 (nvA (narrow S))
      rw [HOP.out]
      refine bodyPost_ret (results_cell_row rfl _ _ gc 24 (nvA (narrow S)) (0, 0) _ rfl (R6.row 2) Try.underlying24 rfl IN.out) rfl ⟨rfl, ?_⟩
      exact R6.bel

/-- Twice the prime, less y, limb by limb. -/
def sbG (X Y : Nat → Nat) (i : Nat) : Nat := X i + ((if i = 0 then 4503599627370458 else 4503599627370494) - Y i)
set_option maxRecDepth 100000 in
set_option maxHeartbeats 1000000 in
theorem fesub_any (x y : N5) (hx : x.ok) (hy : y.ok) (w : World) :
    Calls Try.prog 25 #[.agg (nvA x), .agg (nvA y)] w fun e w' => e = .returned (.agg (nvA (sub x y))) ∧ Below w.heap.size w w' := by
  have NX := Lib.hid (fun w => narrow_any x hx w)
  have NY := Lib.hid (fun w => narrow_any y hy w)
  have R0 := Lib.hid (rw3 w (nvA x) (nvA y) #[.int .u64 0, .int .u64 0, .int .u64 0, .int .u64 0, .int .u64 0])
  have IX := Lib.hid (infoV x)
  have IY := Lib.hid (infoV y)
  have SX := Lib.hid (size_nvA x)
  have SY := Lib.hid (size_nvA y)
  have BX := Lib.hid (nar_get (narrow_nar hx))
  have BY := Lib.hid (nar_get (narrow_nar hy))
  generalize hrx : nvA x = rx at NX R0 IX SX ⊢
  generalize hry : nvA y = ry at NY R0 IY SY ⊢
  clear hrx hry
  go_enter Try.func25, Try.ntmps25
  go_wp2_with fail
  generalize ((w.alloc (.cells rx 24 (0, 0))).alloc (.cells ry 24 (0, 0))).alloc (.cells #[.int .u64 0, .int .u64 0, .int .u64 0, .int .u64 0, .int .u64 0] 24 (0, 0)) = W at R0 ⊢
  refine wp_region_below_tail 4 (by kernel_rfl) (by kernel_rfl) ?_
  simp only [List.take_succ_cons, List.take_zero, List.drop_succ_cons, List.drop_zero]
  refine wpQuiet_load_row rfl 24 (.tmp 2) rfl w.heap.size rfl 24 rx (0, 0) _ ?hC Try.underlying24 rfl IX.out ?_
  case hC => rintro w' ⟨p, rfl⟩; exact (R0.out.on p.2).row 0
  simp only [Act.put, List.setIfInBounds_toArray, List.set_cons_zero, List.set_cons_succ]
  go_big_quiet_step (exact calls_below (NX.out _))
  refine wpQuiet_load_row rfl 24 (.tmp 3) rfl (w.heap.size + 1) rfl 24 ry (0, 0) _ ?hC2 Try.underlying24 rfl IY.out ?_
  case hC2 => rintro w' ⟨p, rfl⟩; exact (R0.out.on p.2).row 1
  simp only [Act.put, List.setIfInBounds_toArray, List.set_cons_zero, List.set_cons_succ]
  go_big_quiet_step (exact calls_below (NY.out _))
  refine wpQuiet_nil ?_
  rintro _ ⟨p, rfl⟩
  have R1 := Lib.hid (R0.out.on p.2)
  generalize p.1 = wp at R1 ⊢
  have R2 := Lib.hid ((R1.out.store 0 (nvA (narrow x))).store 1 (nvA (narrow y)))
  have R1' := Lib.hid (R1.out.store 0 (nvA (narrow x)))
  have INX := Lib.hid (infoV (narrow x))
  have INY := Lib.hid (infoV (narrow y))
  have ONX := Lib.hid (one_nvA (narrow x))
  have ONY := Lib.hid (one_nvA (narrow y))
  have LX := Lib.hid (show rx.size = (nvA (narrow x)).size by rw [SX.out]; rfl)
  have LY := Lib.hid (show ry.size = (nvA (narrow y)).size by rw [SY.out]; rfl)
  go_upto_region 2 with (first
    | (with_reducible refine wpList_store_row rfl 24 (.tmp 2) (.tmp 7) rfl w.heap.size (nvA (narrow x)) rfl rfl 24 rx ?hg1 INX.out LX.out ONX.out ?_)
    | (with_reducible refine wpList_store_row rfl 24 (.tmp 3) (.tmp 9) rfl (w.heap.size + 1) (nvA (narrow y)) rfl rfl 24 ry ?hg2 INY.out LY.out ONY.out ?_))
  case hg1 => exact R1.out.row 0
  case hg2 => exact R1'.out.row 1
  generalize (World.setRow wp w.heap.size (nvA (narrow x))).setRow (w.heap.size + 1) (nvA (narrow y)) = w2 at R2 ⊢
  have R2 := Lib.hid (show Rw w [(w.heap.size, rowF (getN (narrow x)), 24), (w.heap.size + 1, rowF (getN (narrow y)), 24), (w.heap.size + 1 + 1, #[.int .u64 0, .int .u64 0, .int .u64 0, .int .u64 0, .int .u64 0], 24)] w2 from R2.out)
  clear R0 R1 R1' NX NY IX IY INX INY ONX ONY LX LY SX SY
  have NF := Lib.hid (fun w => narrow_any (subN (narrow x) (narrow y)) (subN_ok (narrow_nar hx)) w)
  have HOP := Lib.hid (show sub x y = narrow (subN (narrow x) (narrow y)) from rfl)
  have HROW := Lib.hid (show rowF (sbG (getN (narrow x)) (getN (narrow y))) = nvA (subN (narrow x) (narrow y)) from rfl)
  generalize hX : getN (narrow x) = X at *
  generalize hY : getN (narrow y) = Y at *
  generalize subN (narrow x) (narrow y) = S at NF HOP HROW
  clear hX hY hx hy
  generalize hA : w.heap.size = ga at *
  generalize hB : ga + 1 = gb at *
  generalize hC : gb + 1 = gc at *
  clear hB hC
  have HA := Lib.hid hA
  clear hA
  have c0 := R2.out.cell 0 0 (rowF_get _ 0 (by decide))
  have c1 := R2.out.cell 1 0 (rowF_get _ 0 (by decide))
  have f0 := R2.out.free 0 0
  have b0 := BY.out 0
  have a0 := BX.out 0
  have put0 := R2.out.put 0 0 (.int .u64 ((X 0 : Int) + (4503599627370458 - (Y 0 : Int))))
  rw [show (X 0 : Int) + (4503599627370458 - (Y 0 : Int)) = ((sbG X Y 0 : Nat) : Int) by unfold sbG; rw [if_pos rfl]; omega, rowF_set _ _ _ (by decide), show upd X 0 (sbG X Y 0) = prog X (sbG X Y) 1 from by rw [← prog_set, prog_zero]] at put0
  have P0 := Lib.hid put0
  have HS0 := Lib.hid (show (X 0 : Int) + (4503599627370458 - (Y 0 : Int)) = ((sbG X Y 0 : Nat) : Int) by unfold sbG; rw [if_pos rfl]; omega)
  generalize hX0 : X 0 = x0 at c0 a0 HS0
  generalize hY0 : Y 0 = y0 at c1 b0 HS0
  clear put0 hX0 hY0
  go_wp2_with fail
  rw [HS0.out]
  generalize World.setCell _ _ _ = w3 at P0 ⊢
  clear c0 c1 f0 b0 a0
  go_loopw [5] (fun i wr => ∃ j : Nat, 1 ≤ j ∧ j ≤ 5 ∧ i = .int .i64 j ∧ Rw w [(ga, rowF (prog X (sbG X Y) j), 24), (gb, rowF Y, 24), (gc, #[.int .u64 0, .int .u64 0, .int .u64 0, .int .u64 0, .int .u64 0], 24)] wr) (fun i _ => 5 - (intOf i).toNat)
  case atStart => exact ⟨1, by omega, by omega, rfl, P0.out⟩
  case round =>
    obtain ⟨j, hj1, hj, rfl, hr⟩ := hrel
    have R3 := Lib.hid hr
    clear hr
    by_cases hlt : j < 5
    · have j1 : (j : Int) < 5 := by omega
      have j0 : (0 : Int) ≤ j := by omega
      have ca := R3.out.cell 0 j (rowF_get _ j hlt)
      have cb := R3.out.cell 1 j (rowF_get _ j hlt)
      have fa := R3.out.free 0 j
      rw [prog_at] at ca
      have bx := BX.out j
      have bby := BY.out j
      have put := R3.out.put 0 j (.int .u64 ((sbG X Y j : Nat) : Int))
      rw [rowF_set _ _ _ hlt, prog_set X (sbG X Y) j] at put
      have hs : ((sbG X Y j : Nat) : Int) = (X j : Int) + (4503599627370494 - (Y j : Int)) := by unfold sbG; rw [if_neg (by omega)]; omega
      rw [hs] at put
      have PUT := Lib.hid put
      have HLT := Lib.hid hlt
      have HJ1 := Lib.hid hj1
      generalize X j = xj at *
      generalize Y j = yj at *
      clear put hlt hs hj hj1
      go_wp2_with fail
      go_still_tail 9, (by kernel_rfl)
      go_wp2_with fail
      go_roundw
      case rel => exact ⟨j + 1, by omega, HLT.out, by go_num, PUT.out.drew⟩
      case measure => simp [intOf]; omega
    · have j1 : ¬ ((j : Int) < 5) := by omega
      have hj5 : j = 5 := by omega
      have r4 := R3.out
      rw [hj5, prog_end, HROW.out] at r4
      have R4 := Lib.hid r4
      clear r4 hj5 hlt hj R3
      have IS := Lib.hid (infoV S)
      have IN := Lib.hid (infoV (narrow S))
      have ON := Lib.hid (one_nvA (narrow S))
      have LN := Lib.hid (show (#[.int .u64 0, .int .u64 0, .int .u64 0, .int .u64 0, .int .u64 0] : Array Value).size = (nvA (narrow S)).size from rfl)
      have RW4 := Lib.hid (R4.out.row 0)
      go_wp2_with (with_reducible refine wpList_load_row rfl 24 (.tmp 2) rfl ga rfl 24 (nvA S) (0, 0) _ RW4.out Try.underlying24 rfl IS.out ?_)
      refine (NF.out _).mono ?_
      rintro e w5 ⟨rfl, hb5⟩
      have R5 := Lib.hid (R4.out.on hb5)
      have RW5 := Lib.hid (R5.out.row 2)
      clear hb5
      go_wp2_with (with_reducible refine wpList_store_row rfl 24 (.tmp 4) (.tmp 31) rfl gc (nvA (narrow S)) rfl rfl 24 #[.int .u64 0, .int .u64 0, .int .u64 0, .int .u64 0, .int .u64 0] RW5.out IN.out LN.out ON.out ?_)
      have R6 := R5.out.store 2 (nvA (narrow S))
      rw [HOP.out]
      refine bodyPost_ret (results_cell_row rfl _ _ gc 24 (nvA (narrow S)) (0, 0) _ rfl (R6.row 2) Try.underlying24 rfl IN.out) rfl ⟨rfl, ?_⟩
      exact R6.bel
end Go.Proofs.Ythlmphloalbhnaa

/-
  fe.least, fe.squares, fe.Swap: the walks.
-/
namespace Go.Proofs.Ythlmphloalbhnaa
open Go.RowKit MS

/-- What is carried out of the places below j, 19 more at the start. -/
def ovN (X : Nat → Nat) : Nat → Nat
  | 0 => 19
  | j + 1 => (X j + ovN X j) / 2251799813685248
def crN (X : Nat → Nat) (k : Nat) : Nat → Nat
  | 0 => k
  | j + 1 => (X j + crN X k j) / 2251799813685248
def crG (X : Nat → Nat) (k j : Nat) : Nat := (X j + crN X k j) % 2251799813685248
theorem ovN_le (X : Nat → Nat) (h : ∀ j, X j < 2251799813947392) (j : Nat) : ovN X j ≤ 19 := by
  induction j with
  | zero => exact Nat.le_refl _
  | succ j ih => have := h j; rw [ovN]; omega
theorem ovN_1 (X : Nat → Nat) (h : ∀ j, X j < 2251799813947392) (j : Nat) : ovN X (j + 1) ≤ 1 := by
  have := h j; have := ovN_le X h j; rw [ovN]; omega
theorem crN_le (X : Nat → Nat) (h : ∀ j, X j < 2251799813947392) (k : Nat) (hk : k ≤ 19) (j : Nat) : crN X k j ≤ 19 := by
  induction j with
  | zero => exact hk
  | succ j ih => have := h j; rw [crN]; omega
theorem over_ovN (x : N5) : over x = ovN (getN x) 5 := by
  simp only [over, ovN, getN, Nat.add_comm]
theorem row_carried (x : N5) (k : Nat) : rowF (crG (getN x) k) = nvA (carried x k) := rfl
theorem rw2 (w : World) (r0 r1 : Array Value) : Rw w [(w.heap.size, r0, 24), (w.heap.size + 1, r1, 24)] ((w.alloc (.cells r0 24 (0, 0))).alloc (.cells r1 24 (0, 0))) := by
  have h := ((Rw.nil w).alloc r0 24).alloc r1 24
  simpa using h

set_option maxRecDepth 100000 in
set_option maxHeartbeats 1000000 in
theorem least_any (x : N5) (hx : x.ok) (w : World) :
    Calls Try.prog 38 #[.agg (nvA x)] w fun e w' => e = .returned (.agg (nvA (least x))) ∧ Below w.heap.size w w' := by
  have NX := Lib.hid (fun w => narrow_any x hx w)
  have R0 := Lib.hid (rw2 w (nvA x) #[.int .u64 0, .int .u64 0, .int .u64 0, .int .u64 0, .int .u64 0])
  have IX := Lib.hid (infoV x)
  have SX := Lib.hid (size_nvA x)
  have BX := Lib.hid (nar_get (narrow_nar hx))
  have IN := Lib.hid (infoV (narrow x))
  have ON := Lib.hid (one_nvA (narrow x))
  have HRES := Lib.hid (show rowF (crG (getN (narrow x)) (19 * ovN (getN (narrow x)) 5)) = nvA (least x) by rw [row_carried, least, over_ovN])
  have IL := Lib.hid (infoV (least x))
  have OL := Lib.hid (one_nvA (least x))
  have LL := Lib.hid (show (#[.int .u64 0, .int .u64 0, .int .u64 0, .int .u64 0, .int .u64 0] : Array Value).size = (nvA (least x)).size from rfl)
  have HV := Lib.hid (nvA_row (narrow x))
  generalize hrx : nvA x = rx at NX R0 IX SX ⊢
  have LX := Lib.hid (show rx.size = (nvA (narrow x)).size by rw [SX.out]; rfl)
  generalize hn : nvA (narrow x) = rn at NX IN ON LX HV ⊢
  generalize hl : nvA (least x) = rl at HRES IL OL LL ⊢
  generalize hX : getN (narrow x) = X at *
  clear hrx hn hl hX hx
  go_enter Try.func38, Try.ntmps38
  go_upto_region 1 with fail
  generalize (w.alloc (.cells rx 24 (0, 0))).alloc (.cells #[.int .u64 0, .int .u64 0, .int .u64 0, .int .u64 0, .int .u64 0] 24 (0, 0)) = W at R0 ⊢
  have RW0 := Lib.hid (R0.out.row 0)
  go_wp2_with (with_reducible refine wpList_load_row rfl 24 (.tmp 1) rfl w.heap.size rfl 24 rx (0, 0) _ RW0.out Try.underlying24 rfl IX.out ?_)
  refine (NX.out _).mono ?_
  rintro e w5 ⟨rfl, hb5⟩
  have R1 := Lib.hid (R0.out.on hb5)
  have RW1 := Lib.hid (R1.out.row 0)
  have R2 := Lib.hid (R1.out.store 0 rn)
  clear hb5
  go_upto_region 2 with (with_reducible refine wpList_store_row rfl 24 (.tmp 1) (.tmp 9) rfl w.heap.size rn rfl rfl 24 rx RW1.out IN.out LX.out ON.out ?_)
  have r3 := R2.out
  simp only [List.set_cons_zero] at r3
  generalize World.setRow w5 _ rn = w6 at r3 ⊢
  rw [HV.out] at r3
  generalize hA : w.heap.size = ga at *
  generalize hB : ga + 1 = gb at *
  clear hA hB R0 RW0 R1 RW1 R2
  have R3 := Lib.hid r3
  have c0 := r3.cell 0 0 (rowF_get _ 0 (by decide))
  have b0 := BX.out 0
  have h0 : ((X 0 : Int) + 19) / 2251799813685248 = ((ovN X 1 : Nat) : Int) := by rw [ovN, ovN]; omega
  have HO1 := Lib.hid (show ovN X 1 = ovN X 1 from rfl)
  generalize hx0 : X 0 = x0 at c0 b0 h0
  generalize ho1 : ovN X 1 = o1 at h0
  have HOO := Lib.hid ho1
  clear r3 ho1 hx0 HO1
  go_wp2_with fail
  clear c0 b0 h0
  go_loop [3, 4] (fun o i => ∃ j : Nat, 1 ≤ j ∧ j ≤ 5 ∧ i = .int .i64 j ∧ o = .int .u64 (ovN X j : Nat)) (fun _ i => 5 - (intOf i).toNat)
  case atStart => exact ⟨1, by omega, by omega, rfl, by rw [HOO.out]⟩
  case round =>
    obtain ⟨j, hj1, hj, rfl, rfl⟩ := hrel
    clear HOO
    by_cases hlt : j < 5
    · have j1 : (j : Int) < 5 := by omega
      have j0 : (0 : Int) ≤ j := by omega
      have cj := R3.out.cell 0 j (rowF_get _ j hlt)
      have bj := BX.out j
      have lo := ovN_le X BX.out j
      have hs : ((X j : Int) + (ovN X j : Int)) / 2251799813685248 = ((ovN X (j + 1) : Nat) : Int) := by rw [show ovN X (j + 1) = (X j + ovN X j) / 2251799813685248 from rfl]; omega
      have HLT := Lib.hid hlt
      have HJ1 := Lib.hid hj1
      generalize X j = xj at cj bj hs
      generalize ovN X j = oj at lo hs
      generalize ho : ovN X (j + 1) = oj1 at hs
      have HO := Lib.hid ho
      clear hlt hj1 hj ho
      go_wp2_with fail
      go_round
      case rel => exact ⟨j + 1, by omega, HLT.out, by go_num, by rw [HO.out]⟩
      case measure => simp [intOf]; omega
    · have j1 : ¬ ((j : Int) < 5) := by omega
      have hj5 : j = 5 := by omega
      have l1 := ovN_1 X BX.out 4
      rw [show 4 + 1 = 5 from rfl] at l1
      rw [hj5]
      have CL := Lib.hid (crN_le X BX.out (19 * ovN X 5) (by omega))
      have hk : 19 * (ovN X 5 : Int) = ((19 * ovN X 5 : Nat) : Int) := by omega
      have kk : 19 * ovN X 5 ≤ 19 := by omega
      generalize hK : 19 * ovN X 5 = k at *
      have HK := Lib.hid hk
      generalize ovN X 5 = o5 at *
      clear hj5 hlt hj1 hj hk hK
      go_wp2_with fail
      rw [HK.out]
      go_loopw [5, 26] (fun c i wr => ∃ j : Nat, j ≤ 5 ∧ i = .int .i64 j ∧ c = .int .u64 (crN X k j : Nat) ∧ Rw w [(ga, rowF (prog X (crG X k) j), 24), (gb, #[.int .u64 0, .int .u64 0, .int .u64 0, .int .u64 0, .int .u64 0], 24)] wr) (fun _ i _ => 5 - (intOf i).toNat)
      case atStart => exact ⟨0, by omega, rfl, rfl, by rw [prog_zero]; exact R3.out⟩
      case round =>
        obtain ⟨j, hj, rfl, rfl, hr⟩ := hrel
        have R4 := Lib.hid hr
        clear hr R3
        by_cases hlt : j < 5
        · have j1 : (j : Int) < 5 := by omega
          have j0 : (0 : Int) ≤ j := by omega
          have cj := R4.out.cell 0 j (rowF_get _ j hlt)
          have fj := R4.out.free 0 j
          rw [prog_at] at cj
          have bj := BX.out j
          have lo := CL.out j
          have put := R4.out.put 0 j (.int .u64 ((crG X k j : Nat) : Int))
          rw [rowF_set _ _ _ hlt, prog_set] at put
          have PUT := Lib.hid put
          have hs : ((X j : Int) + (crN X k j : Int)) / 2251799813685248 = ((crN X k (j + 1) : Nat) : Int) := by rw [show crN X k (j + 1) = (X j + crN X k j) / 2251799813685248 from rfl]; omega
          have ha : bits .and .u64 ((X j : Int) + (crN X k j : Int)) 2251799813685247 = ((crG X k j : Nat) : Int) := by
            have := and51 (X j + crN X k j) (by omega)
            rw [Int.natCast_add] at this
            exact this
          have HLT := Lib.hid hlt
          generalize X j = xj at cj bj hs ha
          generalize crN X k j = oj at lo hs ha
          generalize crG X k j = gj at PUT ha put
          generalize ho : crN X k (j + 1) = oj1 at hs
          have HO := Lib.hid ho
          clear hlt hj ho put
          go_wp2_with fail
          go_roundw
          case rel => exact ⟨j + 1, HLT.out, by go_num, by rw [HO.out], PUT.out⟩
          case measure => simp [intOf]; omega
        · have j1 : ¬ ((j : Int) < 5) := by omega
          have hj5 : j = 5 := by omega
          have r5 := R4.out
          rw [hj5, prog_end, HRES.out] at r5
          have R5 := Lib.hid r5
          have RW5 := Lib.hid (r5.row 0)
          have RW6 := Lib.hid (r5.row 1)
          clear r5 hj5 hlt hj R4
          go_wp2_with (first
            | (with_reducible refine wpList_load_row rfl 24 (.tmp 1) rfl ga rfl 24 rl (0, 0) _ RW5.out Try.underlying24 rfl IL.out ?_)
            | (with_reducible refine wpList_store_row rfl 24 (.tmp 2) (.tmp 41) rfl gb rl rfl rfl 24 #[.int .u64 0, .int .u64 0, .int .u64 0, .int .u64 0, .int .u64 0] RW6.out IL.out LL.out OL.out ?_))
          have R6 := R5.out.store 1 rl
          exact bodyPost_ret (results_cell_row rfl _ _ gb 24 rl (0, 0) _ rfl (R6.row 1) Try.underlying24 rfl IL.out) rfl ⟨rfl, R6.bel⟩
end Go.Proofs.Ythlmphloalbhnaa

/-
  Products of five limbs as the program's loops make them. No program stands in them.
-/
namespace MS
/-- The product that the round (i, j) adds. -/
def tm (X Y : Nat → Nat) (i j : Nat) : Nat := X i * (if i + j ≥ 5 then Y j * 19 else Y j)
def ix (i j : Nat) : Nat := if i + j ≥ 5 then i + j - 5 else i + j
def inn (X Y f : Nat → Nat) (i : Nat) : Nat → Nat → Nat
  | 0 => f
  | j + 1 => upd (inn X Y f i j) (ix i j) (inn X Y f i j (ix i j) + tm X Y i j)
def outr (X Y : Nat → Nat) : Nat → Nat → Nat
  | 0 => fun _ => 0
  | i + 1 => inn X Y (outr X Y i) i 5
def TB : Nat := 96342447615577040000000000000000
theorem ix_lt {i j : Nat} (hi : i < 5) (hj : j < 5) : ix i j < 5 := by unfold ix; split <;> omega
theorem tm_le {X Y : Nat → Nat} (hX : ∀ i, X i < 2251799813947392) (hY : ∀ i, Y i < 2251799813947392) (i j : Nat) : tm X Y i j ≤ TB := by
  unfold tm TB
  split
  · exact prod_lt19 (hX i) (hY j)
  · exact prod_lt1 (hX i) (hY j)
theorem inn_le {X Y f : Nat → Nat} {i C : Nat} (hX : ∀ i, X i < 2251799813947392) (hY : ∀ i, Y i < 2251799813947392) (hf : ∀ k, f k ≤ C) (j k : Nat) : inn X Y f i j k ≤ C + j * TB := by
  induction j generalizing k with
  | zero => rw [Nat.zero_mul]; exact hf k
  | succ j ih =>
    have h1 := ih k
    have h2 := ih (ix i j)
    have h3 := tm_le hX hY i j
    rw [inn, upd, Nat.succ_mul]
    split <;> omega
theorem outr_le {X Y : Nat → Nat} (hX : ∀ i, X i < 2251799813947392) (hY : ∀ i, Y i < 2251799813947392) (i k : Nat) : outr X Y i k ≤ 5 * i * TB := by
  induction i generalizing k with
  | zero => exact Nat.zero_le _
  | succ i ih =>
    have := inn_le (i := i) hX hY ih 5 k
    rw [outr, show 5 * (i + 1) = 5 * i + 5 by omega, Nat.add_mul]
    exact this
theorem inn_lt {X Y : Nat → Nat} (hX : ∀ i, X i < 2251799813947392) (hY : ∀ i, Y i < 2251799813947392) {i : Nat} (hi : i < 5) {j : Nat} (hj : j ≤ 5) (k : Nat) : inn X Y (outr X Y i) i j k ≤ 2408561190389426000000000000000000 := by
  have h1 := inn_le (i := i) hX hY (outr_le hX hY i) j k
  have h2 : 5 * i * TB + j * TB ≤ 25 * TB := by
    rw [← Nat.add_mul]; exact Nat.mul_le_mul_right _ (by omega)
  unfold TB at *
  omega
/-- A sum in two words. -/
theorem two_low (f p : Nat) : (f + p) % 18446744073709551616 = (f % 18446744073709551616 + p % 18446744073709551616) % 18446744073709551616 := Nat.add_mod _ _ _
theorem two_high (f p : Nat) : (f + p) / 18446744073709551616 = f / 18446744073709551616 + (p / 18446744073709551616 + (f % 18446744073709551616 + p % 18446744073709551616) / 18446744073709551616) := by omega
def lowF (f : Nat → Nat) : Nat → Nat := fun k => f k % 18446744073709551616
def highF (f : Nat → Nat) : Nat → Nat := fun k => f k / 18446744073709551616
theorem lowF_upd (f : Nat → Nat) (k v : Nat) : upd (lowF f) k (v % 18446744073709551616) = lowF (upd f k v) := by
  funext i
  simp only [upd, lowF]
  by_cases e : i = k <;> simp [e]
theorem highF_upd (f : Nat → Nat) (k v : Nat) : upd (highF f) k (v / 18446744073709551616) = highF (upd f k v) := by
  funext i
  simp only [upd, highF]
  by_cases e : i = k <;> simp [e]
/-- The third loop: the columns carried on. -/
def prd (F : Nat → Nat) : Nat → Nat → Nat
  | 0 => fun _ => 0
  | k + 1 => if k + 1 < 5 then upd (upd (prd F k) k (prd F k k + F k % 2251799813685248)) (k + 1) (upd (prd F k) k (prd F k k + F k % 2251799813685248) (k + 1) + F k / 2251799813685248)
    else upd (upd (prd F k) k (prd F k k + F k % 2251799813685248)) 0 (upd (prd F k) k (prd F k k + F k % 2251799813685248) 0 + 19 * (F k / 2251799813685248))
theorem prd_le {F : Nat → Nat} (hF : ∀ k, F k < 649037107316853453566312041152512) (k : Nat) (hk : k ≤ 4) (i : Nat) : prd F k i ≤ k * 290482175965396992 := by
  induction k generalizing i with
  | zero => exact Nat.zero_le _
  | succ k ih =>
    have h1 := ih (by omega) i
    have h2 := ih (by omega) k
    have h3 := ih (by omega) (k + 1)
    have h4 := hF k
    rw [prd, if_pos (by omega)]
    unfold upd
    rw [Nat.succ_mul]
    have h5 : F k / 2251799813685248 < 288230376151711744 := Nat.div_lt_of_lt_mul h4
    have h6 : F k % 2251799813685248 < 2251799813685248 := Nat.mod_lt _ (by decide)
    have h7 : F k / 2251799813685248 + F k % 2251799813685248 ≤ 290482175965396992 := Nat.le_trans (Nat.add_le_add (Nat.le_of_lt h5) (Nat.le_of_lt h6)) (by decide)
    clear h4 h5 h6 hF ih
    generalize F k / 2251799813685248 = p at *
    generalize F k % 2251799813685248 = q at *
    generalize 290482175965396992 = B at *
    generalize k * B = z at *
    repeat' split
    all_goals omega
/-- The columns of the two loops are those of the product. -/
theorem outr_end (x y : N5) (X Y : Nat → Nat) (hX : X 0 = x.a ∧ X 1 = x.b ∧ X 2 = x.c ∧ X 3 = x.d ∧ X 4 = x.e) (hY : Y 0 = y.a ∧ Y 1 = y.b ∧ Y 2 = y.c ∧ Y 3 = y.d ∧ Y 4 = y.e) :
    outr X Y 5 0 = col0 x y ∧ outr X Y 5 1 = col1 x y ∧ outr X Y 5 2 = col2 x y ∧ outr X Y 5 3 = col3 x y ∧ outr X Y 5 4 = col4 x y := by
  obtain ⟨x0, x1, x2, x3, x4⟩ := hX
  obtain ⟨y0, y1, y2, y3, y4⟩ := hY
  refine ⟨?_, ?_, ?_, ?_, ?_⟩ <;> simp [outr, inn, upd, ix, tm, x0, x1, x2, x3, x4, y0, y1, y2, y3, y4, col0, col1, col2, col3, col4]
theorem prd_end (F : Nat → Nat) : prd F 5 0 = F 0 % 2251799813685248 + 19 * (F 4 / 2251799813685248) ∧ prd F 5 1 = F 1 % 2251799813685248 + F 0 / 2251799813685248 ∧ prd F 5 2 = F 2 % 2251799813685248 + F 1 / 2251799813685248 ∧
    prd F 5 3 = F 3 % 2251799813685248 + F 2 / 2251799813685248 ∧ prd F 5 4 = F 4 % 2251799813685248 + F 3 / 2251799813685248 := by
  refine ⟨?_, ?_, ?_, ?_, ?_⟩ <;> simp [prd, upd] <;> omega
end MS

/-
  fe.Mul: the walk.
-/
namespace Go.Proofs.Ythlmphloalbhnaa
open Go.RowKit MS

def renM : Go.Shelf.Ren := ⟨fun n => if n = 264 then 40 else n, fun n => if n = 53 then 22 else if n = 46 then 42 else n, fun n => n⟩
def renA : Go.Shelf.Ren := ⟨fun n => if n = 25 then 41 else n, fun n => if n = 22 then 22 else n, fun n => n⟩
theorem laysM : Lays.n264 Try.prog renM := { mixed := by kernel_rfl, f264 := by kernel_rfl, t46 := by kernel_rfl, a46 := fun _ => by kernel_rfl, z46 := fun _ => by kernel_rfl, v46 := fun _ => by kernel_rfl, t53 := by kernel_rfl, a53 := fun _ => by kernel_rfl, z53 := fun _ => by kernel_rfl, v53 := fun _ => by kernel_rfl }
theorem laysA : Lays7.n25 Try.prog renA := { mixed := by kernel_rfl, f25 := by kernel_rfl, t22 := by kernel_rfl, a22 := fun _ => by kernel_rfl, z22 := fun _ => by kernel_rfl, v22 := fun _ => by kernel_rfl, i22 := by kernel_rfl }
theorem mul64_any (x y : Nat) (hx : x < 18446744073709551616) (hy : y < 18446744073709551616) (w : World) :
    Calls Try.prog 40 #[.int .u64 x, .int .u64 y] w fun e w' => e = .returned (.tuple #[.int .u64 ((x * y / 18446744073709551616 : Nat) : Int), .int .u64 ((x * y % 18446744073709551616 : Nat) : Int)]) ∧ w = w' :=
  (Any.bits_Mul64 laysM x y hx hy w).mono fun _ _ ⟨h1, h2⟩ => ⟨h1, h2.symm⟩
theorem add64_run (x y : Nat) (w : World) : (callFunc 41 #[.int .u64 x, .int .u64 y, .int .u64 0]).run Try.prog w = .ok (.value (.tuple #[.int .u64 (((x + y) % 18446744073709551616 : Nat) : Int), .int .u64 (((x + y) / 18446744073709551616 : Nat) : Int)])) w :=
  Any7.bits_Add64 laysA x y 0 (by decide) w
theorem run_index_rowF (T : TypeId) (hu : Try.prog.underlying T = some (.array 5 22)) (f : Nat → Nat) (j : Nat) (hj : j < 5) (w : World) : (Instr.index T (.agg (rowF f)) (.int .i64 j)).run Try.prog w = .ok (.int .u64 (f j : Nat)) w := by
  have hn : (0 : Int) ≤ j ∧ (j : Int) < 5 := by omega
  have hi : (Try.prog.info? 22).map (·.size) = some 1 := by kernel_rfl
  cases hq : Try.prog.info? 22 with
  | none => simp [hq] at hi
  | some i =>
    have hs : i.size = 1 := by simpa [hq] using hi
    simp [Instr.index, run_underlying hu, asIntOf, go_sem, sizeOf, typeInfo, hq, hs, hn]
    rw [if_pos hj, rowF_get f j hj]
    rfl
theorem rowF_high0 (X Y : Nat → Nat) : rowF (highF (outr X Y 0)) = #[.int .u64 0, .int .u64 0, .int .u64 0, .int .u64 0, .int .u64 0] := by simp [rowF, highF, outr]
theorem rowF_low0 (X Y : Nat → Nat) : rowF (lowF (outr X Y 0)) = #[.int .u64 0, .int .u64 0, .int .u64 0, .int .u64 0, .int .u64 0] := by simp [rowF, lowF, outr]
theorem rowF_zero : rowF (fun _ => 0) = #[.int .u64 0, .int .u64 0, .int .u64 0, .int .u64 0, .int .u64 0] := rfl
theorem or51 (n : Nat) (h : n < 649037107316853453566312041152512) : bits .or .u64 (((n / 18446744073709551616 : Nat) : Int) * 8192) ((n % 18446744073709551616 / 2251799813685248 : Nat) : Int) = ((n / 2251799813685248 : Nat) : Int) := by
  have h1 : n / 18446744073709551616 < 35184372088832 := by omega
  have h2 : n % 18446744073709551616 / 2251799813685248 < 8192 := by omega
  have := u64_or_nat (n / 18446744073709551616 * 8192) (n % 18446744073709551616 / 2251799813685248) (by omega) (by omega)
  rw [Int.natCast_mul, show ((8192 : Nat) : Int) = 8192 from rfl] at this
  rw [this, show (8192 : Nat) = 2 ^ 13 from rfl, ← Nat.shiftLeft_eq, ← Nat.shiftLeft_add_eq_or_of_lt (by omega), Nat.shiftLeft_eq]
  congr 1
  omega
theorem prd_le' {F : Nat → Nat} (hF : ∀ k, k < 5 → F k < 649037107316853453566312041152512) (k : Nat) (hk : k ≤ 4) (i : Nat) : prd F k i ≤ 1161928703861587968 := by
  have h := prd_le (F := fun k => if k < 5 then F k else 0) (fun k => by show (if k < 5 then F k else 0) < _; split; exact hF k ‹_›; decide) k hk i
  have e : ∀ k, k ≤ 4 → prd (fun k => if k < 5 then F k else 0) k = prd F k := by
    intro k hk
    induction k with
    | zero => rfl
    | succ k ih => rw [prd, prd, ih (by omega), if_pos (show k < 5 by omega)]
  rw [e k hk] at h
  refine Nat.le_trans h ?_
  have := Nat.mul_le_mul_right 290482175965396992 hk
  omega
theorem outr_row (x y : N5) (F : Nat → Nat) (h : F 0 = col0 x y ∧ F 1 = col1 x y ∧ F 2 = col2 x y ∧ F 3 = col3 x y ∧ F 4 = col4 x y) : rowF (prd F 5) = nvA (mulN x y) := by
  obtain ⟨h0, h1, h2, h3, h4⟩ := h
  obtain ⟨p0, p1, p2, p3, p4⟩ := prd_end F
  unfold rowF nvA mulN folded
  simp only [p0, p1, p2, p3, p4, h0, h1, h2, h3, h4]
theorem outr_lt (x y : N5) (F : Nat → Nat) (h : F 0 = col0 x y ∧ F 1 = col1 x y ∧ F 2 = col2 x y ∧ F 3 = col3 x y ∧ F 4 = col4 x y)
    (hc : col0 x y < 649037107316853453566312041152512 ∧ col1 x y < 649037107316853453566312041152512 ∧ col2 x y < 649037107316853453566312041152512 ∧ col3 x y < 649037107316853453566312041152512 ∧ col4 x y < 649037107316853453566312041152512) (k : Nat) (hk : k < 5) : F k < 649037107316853453566312041152512 := by
  obtain ⟨h0, h1, h2, h3, h4⟩ := h
  obtain ⟨c0, c1, c2, c3, c4⟩ := hc
  have : k = 0 ∨ k = 1 ∨ k = 2 ∨ k = 3 ∨ k = 4 := by omega
  rcases this with rfl | rfl | rfl | rfl | rfl
  · rw [h0]; exact c0
  · rw [h1]; exact c1
  · rw [h2]; exact c2
  · rw [h3]; exact c3
  · rw [h4]; exact c4

set_option maxRecDepth 100000 in
set_option maxHeartbeats 3000000 in
theorem femul_any (x y : N5) (hx : x.ok) (hy : y.ok) (w : World) :
    Calls Try.prog 17 #[.agg (nvA x), .agg (nvA y)] w fun e w' => e = .returned (.agg (nvA (mul x y))) ∧ Below w.heap.size w w' := by
  have NX := Lib.hid (fun w => narrow_any x hx w)
  have NY := Lib.hid (fun w => narrow_any y hy w)
  have R0 := Lib.hid (rw3 w (nvA x) (nvA y) #[.int .u64 0, .int .u64 0, .int .u64 0, .int .u64 0, .int .u64 0])
  have IX := Lib.hid (infoV x)
  have IY := Lib.hid (infoV y)
  have SX := Lib.hid (size_nvA x)
  have SY := Lib.hid (size_nvA y)
  have BX := Lib.hid (nar_get (narrow_nar hx))
  have BY := Lib.hid (nar_get (narrow_nar hy))
  generalize hrx : nvA x = rx at NX R0 IX SX ⊢
  generalize hry : nvA y = ry at NY R0 IY SY ⊢
  clear hrx hry
  go_enter Try.func17, Try.ntmps17
  go_wp2_with fail
  generalize ((w.alloc (.cells rx 24 (0, 0))).alloc (.cells ry 24 (0, 0))).alloc (.cells #[.int .u64 0, .int .u64 0, .int .u64 0, .int .u64 0, .int .u64 0] 24 (0, 0)) = W at R0 ⊢
  refine wp_region_below_tail 4 (by kernel_rfl) (by kernel_rfl) ?_
  simp only [List.take_succ_cons, List.take_zero, List.drop_succ_cons, List.drop_zero]
  refine wpQuiet_load_row rfl 24 (.tmp 2) rfl w.heap.size rfl 24 rx (0, 0) _ ?hC Try.underlying24 rfl IX.out ?_
  case hC => rintro w' ⟨p, rfl⟩; exact (R0.out.on p.2).row 0
  simp only [Act.put, List.setIfInBounds_toArray, List.set_cons_zero, List.set_cons_succ]
  go_big_quiet_step (exact calls_below (NX.out _))
  refine wpQuiet_load_row rfl 24 (.tmp 3) rfl (w.heap.size + 1) rfl 24 ry (0, 0) _ ?hC2 Try.underlying24 rfl IY.out ?_
  case hC2 => rintro w' ⟨p, rfl⟩; exact (R0.out.on p.2).row 1
  simp only [Act.put, List.setIfInBounds_toArray, List.set_cons_zero, List.set_cons_succ]
  go_big_quiet_step (exact calls_below (NY.out _))
  refine wpQuiet_nil ?_
  rintro _ ⟨p, rfl⟩
  have R1 := Lib.hid (R0.out.on p.2)
  generalize p.1 = wp at R1 ⊢
  have R2 := Lib.hid ((R1.out.store 0 (nvA (narrow x))).store 1 (nvA (narrow y)))
  have R1' := Lib.hid (R1.out.store 0 (nvA (narrow x)))
  have INX := Lib.hid (infoV (narrow x))
  have INY := Lib.hid (infoV (narrow y))
  have ONX := Lib.hid (one_nvA (narrow x))
  have ONY := Lib.hid (one_nvA (narrow y))
  have LX := Lib.hid (show rx.size = (nvA (narrow x)).size by rw [SX.out]; rfl)
  have LY := Lib.hid (show ry.size = (nvA (narrow y)).size by rw [SY.out]; rfl)
  go_upto_region 2 with (first
    | (with_reducible refine wpList_store_row rfl 24 (.tmp 2) (.tmp 19) rfl w.heap.size (nvA (narrow x)) rfl rfl 24 rx ?hg1 INX.out LX.out ONX.out ?_)
    | (with_reducible refine wpList_store_row rfl 24 (.tmp 3) (.tmp 21) rfl (w.heap.size + 1) (nvA (narrow y)) rfl rfl 24 ry ?hg2 INY.out LY.out ONY.out ?_))
  case hg1 => exact R1.out.row 0
  case hg2 => exact R1'.out.row 1
  generalize (World.setRow wp w.heap.size (nvA (narrow x))).setRow (w.heap.size + 1) (nvA (narrow y)) = w2 at R2 ⊢
  have R2 := Lib.hid (show Rw w [(w.heap.size, rowF (getN (narrow x)), 24), (w.heap.size + 1, rowF (getN (narrow y)), 24), (w.heap.size + 1 + 1, #[.int .u64 0, .int .u64 0, .int .u64 0, .int .u64 0, .int .u64 0], 24)] w2 from R2.out)
  clear R0 R1 R1' NX NY IX IY INX INY ONX ONY LX LY SX SY
  have NF := Lib.hid (fun w => narrow_any (mulN (narrow x) (narrow y)) (mulN_ok (narrow_nar hx) (narrow_nar hy)) w)
  have HOP := Lib.hid (show mul x y = narrow (mulN (narrow x) (narrow y)) from rfl)
  have hcol := outr_end (narrow x) (narrow y) (getN (narrow x)) (getN (narrow y)) ⟨rfl, rfl, rfl, rfl, rfl⟩ ⟨rfl, rfl, rfl, rfl, rfl⟩
  have hclt := cols_lt (narrow_nar hx) (narrow_nar hy)
  have HCOL := Lib.hid (outr_row (narrow x) (narrow y) _ hcol)
  have HCLT := Lib.hid (outr_lt (narrow x) (narrow y) _ hcol hclt)
  generalize hX : getN (narrow x) = X at *
  generalize hY : getN (narrow y) = Y at *
  generalize mulN (narrow x) (narrow y) = S at NF HOP HCOL
  clear hX hY hx hy hcol hclt
  generalize hA : w.heap.size = ga at *
  generalize hB : ga + 1 = gb at *
  generalize hC : gb + 1 = gc at *
  clear hA hB hC
  go_upto_region 3 with fail
  have r3 := (R2.out.alloc #[.int .u64 0, .int .u64 0, .int .u64 0, .int .u64 0, .int .u64 0] 23).alloc #[.int .u64 0, .int .u64 0, .int .u64 0, .int .u64 0, .int .u64 0] 23
  rw [World.size_alloc] at r3
  simp only [List.cons_append, List.nil_append] at r3
  generalize (w2.alloc (.cells #[.int .u64 0, .int .u64 0, .int .u64 0, .int .u64 0, .int .u64 0] 23 (0, 0))).alloc (.cells #[.int .u64 0, .int .u64 0, .int .u64 0, .int .u64 0, .int .u64 0] 23 (0, 0)) = w3 at r3 ⊢
  generalize w2.heap.size + 1 = gl at r3 ⊢
  generalize w2.heap.size = gh at r3 ⊢
  have R3 := Lib.hid (show Rw w [(ga, rowF X, 24), (gb, rowF Y, 24), (gc, rowF (fun _ => 0), 24), (gh, rowF (highF (outr X Y 0)), 23), (gl, rowF (lowF (outr X Y 0)), 23)] w3 from by rw [rowF_high0, rowF_low0, rowF_zero]; exact r3)
  have RA := Lib.hid (r3.row 0)
  have IX := Lib.hid (infoN X)
  have IY := Lib.hid (infoN Y)
  clear r3 R2
  go_wp2_with (with_reducible refine wpList_load_row rfl 24 (.tmp 2) rfl ga rfl 24 (rowF X) (0, 0) _ RA.out Try.underlying24 rfl IX.out ?_)
  clear RA
  go_loopw [23] (fun c wr => ∃ i : Nat, i ≤ 5 ∧ c = .int .i64 i ∧ Rw w [(ga, rowF X, 24), (gb, rowF Y, 24), (gc, rowF (fun _ => 0), 24), (gh, rowF (highF (outr X Y i)), 23), (gl, rowF (lowF (outr X Y i)), 23)] wr) (fun c _ => 5 - (intOf c).toNat)
  case atStart => exact ⟨0, by omega, rfl, R3.out⟩
  case round =>
    obtain ⟨i, hi, rfl, hr⟩ := hrel
    have R4 := Lib.hid hr
    have RB := Lib.hid (hr.row 1)
    clear hr R3
    by_cases hlt : i < 5
    · have i1 : (i : Int) < 5 := by omega
      have i0 : (0 : Int) ≤ i := by omega
      have hix := fun w => run_index_rowF 24 Try.underlying24 X i hlt w
      have HI := Lib.hid hlt
      clear hlt hi
      go_wp2_with (with_reducible refine wpList_load_row rfl 24 (.tmp 3) rfl gb rfl 24 (rowF Y) (0, 0) _ RB.out Try.underlying24 rfl IY.out ?_)
      clear hix RB
      obtain ⟨wo, rfl⟩ : ∃ wo : World, wo = wr := ⟨_, rfl⟩
      go_loopw [28] (fun c wr => ∃ j : Nat, j ≤ 5 ∧ c = .int .i64 j ∧ Rw w [(ga, rowF X, 24), (gb, rowF Y, 24), (gc, rowF (fun _ => 0), 24), (gh, rowF (highF (inn X Y (outr X Y i) i j)), 23), (gl, rowF (lowF (inn X Y (outr X Y i) i j)), 23)] wr) (fun c _ => 5 - (intOf c).toNat)
      case atStart => exact ⟨0, by omega, rfl, R4.out⟩
      case round =>
        obtain ⟨j, hj, rfl, hr⟩ := hrel
        have R5 := Lib.hid hr
        clear hr R4
        by_cases hlt : j < 5
        · have j1 : (j : Int) < 5 := by omega
          have j0 : (0 : Int) ≤ j := by omega
          have hiy := fun w => run_index_rowF 24 Try.underlying24 Y j hlt w
          have hk5 := ix_lt HI.out hlt
          have ch := R5.out.cell 3 (ix i j) (rowF_get _ _ hk5)
          have cl := R5.out.cell 4 (ix i j) (rowF_get _ _ hk5)
          have fl := R5.out.free 4 (ix i j)
          have HG := Lib.hid (inn_lt BX.out BY.out HI.out hj (ix i j))
          have HJ := Lib.hid hlt
          have hmid := R5.out.put 4 (ix i j) (.int .u64 (((inn X Y (outr X Y i) i j (ix i j) + tm X Y i j) % 18446744073709551616 : Nat) : Int))
          have ch2 := hmid.cell 3 (ix i j) (rowF_get _ _ hk5)
          have fh2 := hmid.free 3 (ix i j)
          clear hmid
          have hput := (R5.out.put 4 (ix i j) (.int .u64 (((inn X Y (outr X Y i) i j (ix i j) + tm X Y i j) % 18446744073709551616 : Nat) : Int))).put 3 (ix i j) (.int .u64 (((inn X Y (outr X Y i) i j (ix i j) + tm X Y i j) / 18446744073709551616 : Nat) : Int))
          rw [rowF_set _ _ _ hk5, rowF_set _ _ _ hk5, lowF_upd, highF_upd] at hput
          have PUT := Lib.hid hput
          clear hput
          have HBX := Lib.hid (BX.out i)
          have HBY := Lib.hid (BY.out j)
          obtain ⟨k, hk⟩ : ∃ k, ix i j = k := ⟨_, rfl⟩
          rw [hk] at ch cl fl ch2 fh2 HG PUT
          obtain ⟨f, hf⟩ : ∃ f, inn X Y (outr X Y i) i j k = f := ⟨_, rfl⟩
          rw [hf] at HG PUT ch2 fh2
          rw [show highF (inn X Y (outr X Y i) i j) k = f / 18446744073709551616 from by rw [← hf]; rfl] at ch ch2
          rw [show lowF (inn X Y (outr X Y i) i j) k = f % 18446744073709551616 from by rw [← hf]; rfl] at cl
          obtain ⟨y', hy'⟩ : ∃ y', (if i + j ≥ 5 then Y j * 19 else Y j) = y' := ⟨_, rfl⟩
          have hp : tm X Y i j = X i * y' := by rw [tm, hy']
          rw [hp] at PUT ch2 fh2
          have HY' := Lib.hid (show y' < 18446744073709551616 by rw [← hy']; have := HBY.out; split <;> omega)
          have HT := Lib.hid (show X i * y' ≤ TB by rw [← hp]; exact tm_le BX.out BY.out i j)
          have M := Lib.hid (fun w => mul64_any (X i) y' (by have := HBX.out; omega) HY'.out w)
          have HUP := Lib.hid (show upd (inn X Y (outr X Y i) i j) k (f + X i * y') = inn X Y (outr X Y i) i (j + 1) by rw [inn, hk, hf, hp])
          have hadd := add64_run (f % 18446744073709551616) (X i * y' % 18446744073709551616)
          rw [← two_low] at hadd
          have hs : (f + X i * y') / 18446744073709551616 = _ := two_high f (X i * y')
          have b1 : f / 18446744073709551616 < 200000000000000000 := by have := HG.out; omega
          have b2 : X i * y' / 18446744073709551616 < 200000000000000000 := by have := HT.out; unfold TB at this; omega
          have b3 : (f % 18446744073709551616 + X i * y' % 18446744073709551616) / 18446744073709551616 ≤ 1 := by omega
          rw [HUP.out] at PUT
          clear hf hp HT HUP
          by_cases h5 : i + j ≥ 5
          case' pos =>
            have q5 : (i : Int) + (j : Int) ≥ 5 := by omega
            have qk : (i : Int) + (j : Int) - 5 = (k : Int) := by rw [← hk, ix, if_pos h5]; omega
            have qy : (Y j : Int) * 19 = (y' : Int) := by rw [← hy', if_pos h5]; omega
            have qb : (Y j : Int) * 19 ≤ 100000000000000000 := by have := HBY.out; omega
          case' neg =>
            have q5 : ¬ ((i : Int) + (j : Int) ≥ 5) := by omega
            have qk : (i : Int) + (j : Int) = (k : Int) := by rw [← hk, ix, if_neg h5]; omega
            have qy : Y j = y' := by rw [← hy', if_neg h5]
            have qb : True := trivial
            rw [qy] at hiy
          all_goals
            have qs : ((f / 18446744073709551616 : Nat) : Int) + (((X i * y' / 18446744073709551616 : Nat) : Int) + (((f % 18446744073709551616 + X i * y' % 18446744073709551616) / 18446744073709551616 : Nat) : Int)) = (((f + X i * y') / 18446744073709551616 : Nat) : Int) := by rw [hs]; omega
            have kn : (k : Int) < 5 := by rw [← hk]; have := ix_lt HI.out HJ.out; omega
            have k0 : (0 : Int) ≤ k := by omega
            have hk9 := Lib.hid hk
            generalize (f + X i * y') / 18446744073709551616 = nh at *
            generalize (f + X i * y') % 18446744073709551616 = nl at *
            generalize (f % 18446744073709551616 + X i * y' % 18446744073709551616) / 18446744073709551616 = cc at *
            generalize f % 18446744073709551616 = f0 at *
            generalize f / 18446744073709551616 = f1 at *
            generalize X i * y' % 18446744073709551616 = p0 at *
            generalize X i * y' / 18446744073709551616 = p1 at *
            generalize X i = xi at *
            clear hs hk hy' h5 hj hlt
            go_wp2_with fail
            refine (M.out _).mono ?_
            rintro e w8 ⟨rfl, rfl⟩
            go_wp2_with fail
            go_roundw
            case rel => exact ⟨j + 1, by have := HJ.out; omega, by go_num, PUT.out⟩
            case measure => simp [intOf]; have := HJ.out; omega
        · have j1 : ¬ ((j : Int) < 5) := by omega
          have hj5 : j = 5 := by omega
          have r6 := R5.out
          rw [hj5] at r6
          have R6 := Lib.hid (show Rw w [(ga, rowF X, 24), (gb, rowF Y, 24), (gc, rowF (fun _ => 0), 24), (gh, rowF (highF (outr X Y (i + 1))), 23), (gl, rowF (lowF (outr X Y (i + 1))), 23)] wr from r6)
          clear r6 hj5 hlt hj
          go_wp2_with fail
          go_roundw
          case rel => exact ⟨i + 1, by have := HI.out; omega, by go_num, R6.out⟩
          case measure => simp [intOf]; have := HI.out; omega
    · have i1 : ¬ ((i : Int) < 5) := by omega
      have hi5 : i = 5 := by omega
      have r5 := R4.out
      rw [hi5] at r5
      generalize outr X Y 5 = F at HCOL HCLT r5
      clear hi5 hlt hi RB BX BY
      go_upto_region 20 with fail
      have r6 := r5.alloc #[.int .u64 0, .int .u64 0, .int .u64 0, .int .u64 0, .int .u64 0] 24
      generalize wr.alloc (.cells #[.int .u64 0, .int .u64 0, .int .u64 0, .int .u64 0, .int .u64 0] 24 (0, 0)) = w6 at r6 ⊢
      generalize wr.heap.size = gp at r6 ⊢
      have R6 := Lib.hid (show Rw w [(ga, rowF X, 24), (gb, rowF Y, 24), (gc, rowF (fun _ => 0), 24), (gh, rowF (highF F), 23), (gl, rowF (lowF F), 23), (gp, rowF (prd F 0), 24)] w6 from r6)
      clear r5 r6 R4
      go_wp2_with fail
      go_loopw [67] (fun c wr => ∃ k : Nat, k ≤ 5 ∧ c = .int .i64 k ∧ Rw w [(ga, rowF X, 24), (gb, rowF Y, 24), (gc, rowF (fun _ => 0), 24), (gh, rowF (highF F), 23), (gl, rowF (lowF F), 23), (gp, rowF (prd F k), 24)] wr) (fun c _ => 5 - (intOf c).toNat)
      case atStart => exact ⟨0, by omega, rfl, R6.out⟩
      case round =>
        obtain ⟨k, hk, rfl, hr⟩ := hrel
        have R7 := Lib.hid hr
        clear hr R6
        by_cases hlt : k < 5
        · have k1 : (k : Int) < 5 := by omega
          have k0 : (0 : Int) ≤ k := by omega
          have HK := Lib.hid hlt
          have ch := R7.out.cell 3 k (rowF_get _ _ hlt)
          have cl := R7.out.cell 4 k (rowF_get _ _ hlt)
          have HFB := Lib.hid (HCLT.out k hlt)
          have HPB := Lib.hid (prd_le' HCLT.out k (by omega) k)
          have HPB1 := Lib.hid (prd_le' HCLT.out k (by omega) (k + 1))
          have HPB0 := Lib.hid (prd_le' HCLT.out k (by omega) 0)
          rw [show highF F k = F k / 18446744073709551616 from rfl] at ch
          rw [show lowF F k = F k % 18446744073709551616 from rfl] at cl
          have bf1 : F k / 18446744073709551616 < 35184372088832 := by have := HFB.out; omega
          have hor := or51 (F k) HFB.out
          have hand := and51 (F k % 18446744073709551616) (Nat.mod_lt _ (by decide))
          rw [show F k % 18446744073709551616 % 2251799813685248 = F k % 2251799813685248 by omega] at hand
          have HC := Lib.hid (show F k / 2251799813685248 < 288230376151711744 from Nat.div_lt_of_lt_mul HFB.out)
          have HL := Lib.hid (show F k % 2251799813685248 < 2251799813685248 from Nat.mod_lt _ (by decide))
          have bsm : ((F k % 18446744073709551616 : Nat) : Int) / 2251799813685248 = ((F k % 18446744073709551616 / 2251799813685248 : Nat) : Int) := by omega
          obtain ⟨cr, hcr⟩ : ∃ c, F k / 2251799813685248 = c := ⟨_, rfl⟩
          obtain ⟨lo, hlo⟩ : ∃ c, F k % 2251799813685248 = c := ⟨_, rfl⟩
          rw [hcr] at hor HC
          rw [hlo] at hand HL
          have HCR := Lib.hid hcr
          have HLO := Lib.hid hlo
          generalize F k % 18446744073709551616 / 2251799813685248 = f2 at bsm hor
          obtain ⟨f0, hf0⟩ : ∃ c, F k % 18446744073709551616 = c := ⟨_, rfl⟩
          rw [hf0] at cl hand bsm
          have HF0 := Lib.hid hf0
          clear hf0
          generalize F k / 18446744073709551616 = f1 at ch hor bf1
          clear hcr hlo hlt hk
          go_upto_region 23 with fail
          go_quiet (fail)
          have R8 := Lib.hid (R7.out.drewN nq)
          generalize wr.drewN nq = w8 at R8 ⊢
          have cp := R8.out.cell 5 k (rowF_get _ _ HK.out)
          have cl := R8.out.cell 4 k (rowF_get _ _ HK.out)
          have fp := R8.out.free 5 k
          rw [show lowF F k = F k % 18446744073709551616 from rfl, HF0.out] at cl
          have put := (R8.out.put 5 k (.int .u64 ((prd F k k + F k % 2251799813685248 : Nat) : Int))).drew
          rw [rowF_set _ _ _ HK.out] at put
          have hs : ((prd F k k + F k % 2251799813685248 : Nat) : Int) = (prd F k k : Int) + (lo : Int) := by rw [HLO.out]; omega
          have PUT := Lib.hid (show _ from put)
          rw [hs] at PUT
          have bp : prd F k k ≤ 1161928703861587968 := HPB.out
          have blo := HL.out
          obtain ⟨pk, hpk⟩ : ∃ c, prd F k k = c := ⟨_, rfl⟩
          rw [hpk] at cp bp PUT
          have HPK := Lib.hid hpk
          clear hpk
          clear put hs bsm hor ch bf1
          go_upto_region 24 with fail
          go_still_tail 9, (by kernel_rfl)
          go_upto_region 25 with fail
          generalize (w8.setCell ⟨gp, k, none⟩ (.int .u64 ((pk : Int) + (lo : Int)))).drew = w9 at PUT ⊢
          have R9 := Lib.hid (show Rw w [(ga, rowF X, 24), (gb, rowF Y, 24), (gc, rowF (fun _ => 0), 24), (gh, rowF (highF F), 23), (gl, rowF (lowF F), 23), (gp, rowF (upd (prd F k) k (prd F k k + F k % 2251799813685248)), 24)] w9 from by rw [HPK.out]; exact PUT.out)
          clear PUT cp fp cl bp blo hand
          by_cases h4 : k + 1 < 5
          · have q4 : (k : Int) + 1 < 5 := by omega
            have cq := R9.out.cell 5 (k + 1) (rowF_get _ _ h4)
            have fq := R9.out.free 5 (k + 1)
            have eu : upd (prd F k) k (prd F k k + F k % 2251799813685248) (k + 1) = prd F k (k + 1) := by unfold upd; rw [if_neg (by omega)]
            have put := R9.out.put 5 (k + 1) (.int .u64 ((upd (prd F k) k (prd F k k + F k % 2251799813685248) (k + 1) + F k / 2251799813685248 : Nat) : Int))
            rw [rowF_set _ _ _ h4, show upd (upd (prd F k) k (prd F k k + F k % 2251799813685248)) (k + 1) (upd (prd F k) k (prd F k k + F k % 2251799813685248) (k + 1) + F k / 2251799813685248) = prd F (k + 1) by rw [prd, if_pos h4], eu, show ((prd F k (k + 1) + F k / 2251799813685248 : Nat) : Int) = (prd F k (k + 1) : Int) + (cr : Int) by rw [HCR.out]; omega] at put
            rw [eu] at cq
            have bq : prd F k (k + 1) ≤ 1161928703861587968 := HPB1.out
            have bcr := HC.out
            have PUT2 := Lib.hid put
            generalize prd F k (k + 1) = pq at cq bq PUT2
            have HK4 := Lib.hid h4
            clear put eu h4
            go_wp2_with fail
            go_roundw
            case rel => exact ⟨k + 1, by have := HK.out; omega, by go_num, PUT2.out⟩
            case measure => simp [intOf]; have := HK.out; omega
          · have q4 : ¬ ((k : Int) + 1 < 5) := by omega
            have cq := R9.out.cell 5 0 (rowF_get _ _ (by decide))
            have fq := R9.out.free 5 0
            have eu : upd (prd F k) k (prd F k k + F k % 2251799813685248) 0 = prd F k 0 := by unfold upd; rw [if_neg (by omega)]
            have put := R9.out.put 5 0 (.int .u64 ((upd (prd F k) k (prd F k k + F k % 2251799813685248) 0 + 19 * (F k / 2251799813685248) : Nat) : Int))
            rw [rowF_set _ _ _ (by decide), show upd (upd (prd F k) k (prd F k k + F k % 2251799813685248)) 0 (upd (prd F k) k (prd F k k + F k % 2251799813685248) 0 + 19 * (F k / 2251799813685248)) = prd F (k + 1) by rw [prd, if_neg h4], eu, show ((prd F k 0 + 19 * (F k / 2251799813685248) : Nat) : Int) = (prd F k 0 : Int) + 19 * (cr : Int) by rw [HCR.out]; omega] at put
            rw [eu] at cq
            have bq : prd F k 0 ≤ 1161928703861587968 := HPB0.out
            have bcr := HC.out
            have PUT2 := Lib.hid put
            generalize prd F k 0 = pq at cq bq PUT2
            have HK4 := Lib.hid h4
            clear put eu h4
            go_wp2_with fail
            go_roundw
            case rel => exact ⟨k + 1, by have := HK.out; omega, by go_num, PUT2.out⟩
            case measure => simp [intOf]; have := HK.out; omega
        · have k1 : ¬ ((k : Int) < 5) := by omega
          have hk5 : k = 5 := by omega
          have r8 := R7.out
          rw [hk5, HCOL.out] at r8
          have R8 := Lib.hid r8
          have RP := Lib.hid (r8.row 5)
          have IS := Lib.hid (infoV S)
          have IN := Lib.hid (infoV (narrow S))
          have ON := Lib.hid (one_nvA (narrow S))
          have LN := Lib.hid (show (rowF (fun _ => 0)).size = (nvA (narrow S)).size from rfl)
          clear r8 hk5 hlt hk R7
          go_wp2_with (with_reducible refine wpList_load_row rfl 24 (.tmp 15) rfl gp rfl 24 (nvA S) (0, 0) _ RP.out Try.underlying24 rfl IS.out ?_)
          refine (NF.out _).mono ?_
          rintro e w10 ⟨rfl, hb5⟩
          have R10 := Lib.hid (R8.out.on hb5)
          have RC := Lib.hid (R10.out.row 2)
          clear hb5
          go_wp2_with (with_reducible refine wpList_store_row rfl 24 (.tmp 4) (.tmp 106) rfl gc (nvA (narrow S)) rfl rfl 24 (rowF (fun _ => 0)) RC.out IN.out LN.out ON.out ?_)
          have R11 := R10.out.store 2 (nvA (narrow S))
          rw [HOP.out]
          exact bodyPost_ret (results_cell_row rfl _ _ gc 24 (nvA (narrow S)) (0, 0) _ rfl (R11.row 2) Try.underlying24 rfl IN.out) rfl ⟨rfl, R11.bel⟩
end Go.Proofs.Ythlmphloalbhnaa

/-
  Numbers in digits to a base: plain facts on sums, differences, products. No program stands in them.
-/
namespace MS
/-- The n lowest digits of v to the base B. -/
def dgn (B n v : Nat) : List Nat := (List.range n).map fun i => v / B ^ i % B
theorem length_dgn (B n v : Nat) : (dgn B n v).length = n := by simp [dgn]
theorem dg_get (B n v i : Nat) (h : i < n) : (dgn B n v)[i]? = some (v / B ^ i % B) := by simp [dgn, h]
theorem dg_succ (B n v : Nat) : dgn B (n + 1) v = dgn B n v ++ [v / B ^ n % B] := by simp [dgn, List.range_succ]
theorem dig_mod (B n v i : Nat) (h : i < n) : v % B ^ n / B ^ i % B = v / B ^ i % B := by
  obtain ⟨k, rfl⟩ : ∃ k, n = i + (k + 1) := ⟨n - i - 1, by omega⟩
  rw [Nat.pow_add, Nat.mod_mul_right_div_self, Nat.pow_succ, Nat.mul_comm, Nat.mod_mul_right_mod]
theorem dg_congr (B n v u : Nat) (h : v % B ^ n = u % B ^ n) : dgn B n v = dgn B n u := by
  apply List.ext_getElem?
  intro i
  by_cases hi : i < n
  · rw [dg_get _ _ _ _ hi, dg_get _ _ _ _ hi, ← dig_mod B n v i hi, h, dig_mod B n u i hi]
  · rw [List.getElem?_eq_none (by rw [length_dgn]; omega), List.getElem?_eq_none (by rw [length_dgn]; omega)]
theorem dg_mod (B n v : Nat) : dgn B n (v % B ^ n) = dgn B n v := dg_congr _ _ _ _ (Nat.mod_mod _ _)
theorem dig_lt (B : Nat) (hB : 0 < B) (v i : Nat) : v / B ^ i % B < B := Nat.mod_lt _ hB
theorem dig_zero {B n v i : Nat} (h : v < B ^ n) (hB : 0 < B) (hi : n ≤ i) : v / B ^ i % B = 0 := by
  rw [Nat.div_eq_of_lt (Nat.lt_of_lt_of_le h (Nat.pow_le_pow_right hB hi)), Nat.zero_mod]
theorem mod_succ (B v i : Nat) : v % B ^ (i + 1) = v % B ^ i + B ^ i * (v / B ^ i % B) := by
  rw [Nat.pow_succ, Nat.mod_mul]
/-- The top digit is nought: one digit fewer does. -/
theorem lt_of_top {B n v : Nat} (h : v < B ^ (n + 1)) (h0 : v / B ^ n % B = 0) : v < B ^ n := by
  have h1 := mod_succ B v n
  rw [Nat.mod_eq_of_lt h, h0, Nat.mul_zero, Nat.add_zero] at h1
  rw [h1]
  refine Nat.mod_lt _ ?_
  rcases Nat.eq_zero_or_pos (B ^ n) with e | e
  · rw [Nat.pow_succ, e, Nat.zero_mul] at h
    omega
  · exact e
theorem ge_of_top {B n v : Nat} (h0 : v / B ^ n % B ≠ 0) : B ^ n ≤ v := by
  refine Nat.le_of_not_lt fun hl => h0 ?_
  rw [Nat.div_eq_of_lt hl, Nat.zero_mod]

/-- add: what is carried into place i. -/
def cry (B u v i : Nat) : Nat := (u % B ^ i + v % B ^ i) / B ^ i
theorem cry_zero (B u v : Nat) : cry B u v 0 = 0 := by simp [cry, Nat.mod_one]
theorem cry_le (B u v i : Nat) (hB : 0 < B) : cry B u v i ≤ 1 := by
  have hX : 0 < B ^ i := Nat.pow_pos hB
  have h1 := Nat.mod_lt u hX
  have h2 := Nat.mod_lt v hX
  unfold cry
  rw [← Nat.lt_succ_iff, Nat.div_lt_iff_lt_mul hX]
  omega
theorem add_sum (B u v i : Nat) (hB : 0 < B) : (u + v) / B ^ i = cry B u v i + u / B ^ i + v / B ^ i := by
  have hX : 0 < B ^ i := Nat.pow_pos hB
  unfold cry
  generalize B ^ i = X at hX
  have h1 : u + v = u % X + v % X + X * (u / X + v / X) := by
    have := Nat.div_add_mod u X; have := Nat.div_add_mod v X
    rw [Nat.mul_add]; omega
  conv => lhs; rw [h1, Nat.add_mul_div_left _ _ hX]
  omega
theorem add_digit (B u v i : Nat) (hB : 0 < B) : (u + v) / B ^ i % B = (cry B u v i + u / B ^ i % B + v / B ^ i % B) % B := by
  rw [add_sum B u v i hB]
  simp [Nat.add_mod]
theorem add_carry (B u v i : Nat) (hB : 0 < B) : cry B u v (i + 1) = (cry B u v i + u / B ^ i % B + v / B ^ i % B) / B := by
  have hX : 0 < B ^ i := Nat.pow_pos hB
  unfold cry
  rw [mod_succ, mod_succ, Nat.pow_succ, ← Nat.div_div_eq_div_mul]
  congr 1
  generalize B ^ i = X at hX
  have h1 : u % X + X * (u / X % B) + (v % X + X * (v / X % B)) = u % X + v % X + X * (u / X % B + v / X % B) := by rw [Nat.mul_add]; omega
  rw [h1, Nat.add_mul_div_left _ _ hX]
  omega
/-- add ends where both are over and nothing is carried. -/
theorem add_ends {B u v n m i : Nat} (hu : u < B ^ n) (hv : v < B ^ m) (hB : 0 < B) (hn : n ≤ i) (hm : m ≤ i) (hc : cry B u v i = 0) : u + v < B ^ i := by
  have hX : 0 < B ^ i := Nat.pow_pos hB
  have h1 : u < B ^ i := Nat.lt_of_lt_of_le hu (Nat.pow_le_pow_right hB hn)
  have h2 : v < B ^ i := Nat.lt_of_lt_of_le hv (Nat.pow_le_pow_right hB hm)
  unfold cry at hc
  rw [Nat.mod_eq_of_lt h1, Nat.mod_eq_of_lt h2] at hc
  refine Nat.lt_of_not_le fun hle => ?_
  have := Nat.div_pos hle hX
  omega
/-- times: the sum so far, and what is carried. -/
def tsum (B u v i k : Nat) : Nat := (u % B ^ i * v) % B ^ (i + k) + B ^ i * (u / B ^ i % B) * (v % B ^ k)
theorem tsum_zero (B u v i : Nat) : tsum B u v i 0 = u % B ^ i * v % B ^ i := by simp [tsum, Nat.mod_one]
theorem tsum_succ (B u v i k : Nat) : tsum B u v i (k + 1) = tsum B u v i k + B ^ (i + k) * ((u % B ^ i * v) / B ^ (i + k) % B + u / B ^ i % B * (v / B ^ k % B)) := by
  unfold tsum
  rw [← Nat.add_assoc, mod_succ B (u % B ^ i * v) (i + k), mod_succ B v k, Nat.pow_add, Nat.mul_add, Nat.mul_add]
  generalize u % B ^ i * v / (B ^ i * B ^ k) % B = a
  generalize u % B ^ i * v % (B ^ i * B ^ k) = a2
  generalize u / B ^ i % B = b
  generalize v / B ^ k % B = c
  have : B ^ i * b * (B ^ k * c) = B ^ i * B ^ k * (b * c) := by
    rw [Nat.mul_assoc, Nat.mul_assoc]
    congr 1
    rw [Nat.mul_left_comm]
  omega
theorem tsum_step (B u v i k : Nat) (hB : 0 < B) : tsum B u v i (k + 1) / B ^ (i + k) = tsum B u v i k / B ^ (i + k) + ((u % B ^ i * v) / B ^ (i + k) % B + u / B ^ i % B * (v / B ^ k % B)) := by
  rw [tsum_succ, Nat.add_mul_div_left _ _ (Nat.pow_pos hB)]
theorem tsum_digit (B u v i k : Nat) (hB : 0 < B) : tsum B u v i (k + 1) / B ^ (i + k) % B = (tsum B u v i k / B ^ (i + k) + ((u % B ^ i * v) / B ^ (i + k) % B + u / B ^ i % B * (v / B ^ k % B))) % B := by
  rw [tsum_step _ _ _ _ _ hB]
theorem tsum_carry (B u v i k : Nat) (hB : 0 < B) : tsum B u v i (k + 1) / B ^ (i + (k + 1)) = (tsum B u v i k / B ^ (i + k) + ((u % B ^ i * v) / B ^ (i + k) % B + u / B ^ i % B * (v / B ^ k % B))) / B := by
  rw [← tsum_step _ _ _ _ _ hB, ← Nat.add_assoc, Nat.pow_succ, Nat.div_div_eq_div_mul]
theorem tsum_low (B u v i k : Nat) : tsum B u v i (k + 1) % B ^ (i + k) = tsum B u v i k % B ^ (i + k) := by
  rw [tsum_succ, Nat.add_mul_mod_self_left]
theorem tsum_c0 (B u v i : Nat) (hB : 0 < B) : tsum B u v i 0 / B ^ (i + 0) = 0 := by
  rw [tsum_zero, Nat.add_zero, Nat.div_eq_of_lt (Nat.mod_lt _ (Nat.pow_pos hB))]
theorem tsum_end (B u v i m : Nat) (hB : 0 < B) (hv : v < B ^ m) : tsum B u v i m = u % B ^ (i + 1) * v := by
  have h1 : u % B ^ i * v < B ^ (i + m) := by
    rw [Nat.pow_add]
    have h2 := Nat.mod_lt u (Nat.pow_pos (n := i) hB)
    rcases Nat.eq_zero_or_pos v with e | e
    · subst e; rw [Nat.mul_zero]; exact Nat.mul_pos (Nat.pow_pos hB) (Nat.pow_pos hB)
    · exact Nat.lt_trans (Nat.mul_lt_mul_of_pos_right h2 e) (Nat.mul_lt_mul_of_pos_left hv (Nat.pow_pos hB))
  rw [tsum, Nat.mod_eq_of_lt h1, Nat.mod_eq_of_lt hv, mod_succ, Nat.add_mul]
theorem prod_lt_pow {B n m u v : Nat} (hu : u < B ^ n) (hv : v < B ^ m) (hB : 0 < B) : u * v < B ^ (n + m) := by
  rw [Nat.pow_add]
  rcases Nat.eq_zero_or_pos v with e | e
  · subst e; rw [Nat.mul_zero]; exact Nat.mul_pos (Nat.pow_pos hB) (Nat.pow_pos hB)
  · exact Nat.lt_trans (Nat.mul_lt_mul_of_pos_right hu e) (Nat.mul_lt_mul_of_pos_left hv (Nat.pow_pos hB))
/-- What is carried stays below the base, so that every sum stays small. -/
theorem tsum_c_lt (B u v i k : Nat) (hB : 0 < B) : tsum B u v i k / B ^ (i + k) < B := by
  induction k with
  | zero => rw [tsum_c0 _ _ _ _ hB]; exact hB
  | succ k ih =>
    rw [tsum_carry _ _ _ _ _ hB, Nat.div_lt_iff_lt_mul hB]
    have h1 : (u % B ^ i * v) / B ^ (i + k) % B < B := Nat.mod_lt _ hB
    have h2 : u / B ^ i % B < B := Nat.mod_lt _ hB
    have h3 : v / B ^ k % B < B := Nat.mod_lt _ hB
    have h4 : u / B ^ i % B * (v / B ^ k % B) ≤ (B - 1) * (B - 1) := Nat.mul_le_mul (by omega) (by omega)
    have h5 : (B - 1) * (B - 1) + (B + B) = B * B + 1 := by
      obtain ⟨c, rfl⟩ : ∃ c, B = c + 1 := ⟨B - 1, by omega⟩
      simp [Nat.mul_add, Nat.add_mul]; omega
    omega
/-- The row of times behind k rounds of the inner loop. -/
def trow (B N u v i k : Nat) : List Nat := dgn B (i + k) (tsum B u v i k) ++ (dgn B N (u % B ^ i * v)).drop (i + k)
theorem length_trow (B N u v i k : Nat) (h : i + k ≤ N) : (trow B N u v i k).length = N := by
  rw [trow, List.length_append, length_dgn, List.length_drop, length_dgn]; omega
theorem trow_zero (B N u v i : Nat) (h : i ≤ N) : trow B N u v i 0 = dgn B N (u % B ^ i * v) := by
  rw [trow, tsum_zero, Nat.add_zero, dg_mod]
  apply List.ext_getElem?
  intro j
  rw [List.getElem?_append, length_dgn]
  by_cases h1 : j < i
  · rw [if_pos h1, dg_get _ _ _ _ h1, dg_get _ _ _ _ (by omega)]
  · rw [if_neg h1, List.getElem?_drop, show i + (j - i) = j by omega]
theorem trow_get (B N u v i k j : Nat) (h : i + k ≤ j) (hj : j < N) : (trow B N u v i k)[j]? = some (u % B ^ i * v / B ^ j % B) := by
  rw [trow, List.getElem?_append_right (by rw [length_dgn]; exact h), length_dgn, List.getElem?_drop, show i + k + (j - (i + k)) = j by omega, dg_get _ _ _ _ hj]
theorem drop_cons {α : Type} (l : List α) (p : Nat) (x : α) (h : p < l.length) : (l.drop p).set 0 x = x :: l.drop (p + 1) := by
  rw [List.drop_eq_getElem_cons h]; rfl
theorem trow_set (B N u v i k : Nat) (h : i + k < N) : (trow B N u v i k).set (i + k) (tsum B u v i (k + 1) / B ^ (i + k) % B) = trow B N u v i (k + 1) := by
  have hl : (dgn B (i + k) (tsum B u v i k)).length = i + k := length_dgn _ _ _
  rw [trow, List.set_append_right _ _ (by omega), hl, Nat.sub_self, drop_cons _ _ _ (by rw [length_dgn]; exact h), trow, ← Nat.add_assoc, dg_succ, dg_congr B (i + k) _ _ (tsum_low B u v i k)]
  simp
theorem trow_last (B N u v i m : Nat) (hB : 0 < B) (hv : v < B ^ m) (h : i + m < N) : (trow B N u v i m).set (i + m) (u % B ^ i * v / B ^ (i + m) % B + tsum B u v i m / B ^ (i + m)) = dgn B N (u % B ^ (i + 1) * v) := by
  have hW : u % B ^ i * v < B ^ (i + m) := prod_lt_pow (Nat.mod_lt _ (Nat.pow_pos hB)) hv hB
  have hV : u % B ^ (i + 1) * v < B ^ (i + 1 + m) := prod_lt_pow (Nat.mod_lt _ (Nat.pow_pos hB)) hv hB
  have hc := tsum_c_lt B u v i m hB
  rw [tsum_end B u v i m hB hv] at hc ⊢
  have hl : (dgn B (i + m) (u % B ^ (i + 1) * v)).length = i + m := length_dgn _ _ _
  rw [trow, tsum_end B u v i m hB hv, List.set_append_right _ _ (by omega), hl, Nat.sub_self, drop_cons _ _ _ (by rw [length_dgn]; exact h), Nat.div_eq_of_lt hW, Nat.zero_mod, Nat.zero_add]
  apply List.ext_getElem?
  intro j
  rw [List.getElem?_append, hl]
  by_cases h1 : j < i + m
  · rw [if_pos h1, dg_get _ _ _ _ h1, dg_get _ _ _ _ (by omega)]
  · rw [if_neg h1]
    by_cases h2 : j = i + m
    · subst h2
      rw [Nat.sub_self, List.getElem?_cons_zero, dg_get _ _ _ _ h, Nat.mod_eq_of_lt hc]
    · obtain ⟨d, hd⟩ : ∃ d, j - (i + m) = d + 1 := ⟨j - (i + m) - 1, by omega⟩
      rw [hd, List.getElem?_cons_succ, List.getElem?_drop, show i + m + 1 + d = j by omega]
      by_cases h3 : j < N
      · rw [dg_get _ _ _ _ h3, dg_get _ _ _ _ h3, dig_zero hW hB (by omega), dig_zero hV hB (by omega)]
      · rw [List.getElem?_eq_none (by rw [length_dgn]; omega), List.getElem?_eq_none (by rw [length_dgn]; omega)]
/-- All the rounds: the sum of the places below n. -/
theorem dg_zero (B n : Nat) : dgn B n 0 = List.replicate n 0 := by
  apply List.ext_getElem?
  intro j
  by_cases h : j < n
  · rw [dg_get _ _ _ _ h]; simp [h]
  · rw [List.getElem?_eq_none (by rw [length_dgn]; omega), List.getElem?_eq_none (by simp; omega)]

/-- minus: what is lent at place i. -/
def lent (B u v i : Nat) : Nat := if u % B ^ i < v % B ^ i then 1 else 0
theorem lent_zero (B u v : Nat) : lent B u v 0 = 0 := by simp [lent, Nat.mod_one]
theorem lent_step (B u v i : Nat) (hB : 0 < B) : lent B u v (i + 1) = if u / B ^ i % B < v / B ^ i % B + lent B u v i then 1 else 0 := by
  unfold lent
  rw [mod_succ, mod_succ]
  have hX : 0 < B ^ i := Nat.pow_pos hB
  generalize B ^ i = X at hX
  have h1 := Nat.mod_lt u hX
  have h2 := Nat.mod_lt v hX
  generalize u % X = a at h1 ⊢
  generalize v % X = b at h2 ⊢
  generalize u / X % B = p
  generalize v / X % B = q
  by_cases hpq : p < q
  · have : X * p + X ≤ X * q := by rw [← Nat.mul_succ]; exact Nat.mul_le_mul_left _ hpq
    rw [if_pos (by omega), if_pos (by split <;> omega)]
  · by_cases he : p = q
    · subst he
      by_cases hab : a < b
      · rw [if_pos (by omega), if_pos hab, if_pos (by omega)]
      · rw [if_neg (by omega), if_neg hab, if_neg (by omega)]
    · have : X * q + X ≤ X * p := by rw [← Nat.mul_succ]; exact Nat.mul_le_mul_left _ (by omega)
      rw [if_neg (by omega), if_neg (by split <;> omega)]
theorem sub_digit (B u v i : Nat) (hB : 0 < B) (h : v ≤ u) : ((u - v) / B ^ i % B) + (v / B ^ i % B + lent B u v i) = u / B ^ i % B + B * lent B u v (i + 1) := by
  obtain ⟨d, rfl⟩ : ∃ d, u = v + d := ⟨u - v, by omega⟩
  rw [Nat.add_sub_cancel_left]
  have e1 : ∀ j, lent B (v + d) v j = cry B v d j := by
    intro j
    have hX : 0 < B ^ j := Nat.pow_pos hB
    unfold lent cry
    rw [Nat.add_mod]
    generalize B ^ j = X at hX
    have h1 := Nat.mod_lt d hX
    have h2 := Nat.mod_lt v hX
    generalize d % X = a at h1 ⊢
    generalize v % X = b at h2 ⊢
    by_cases hc : b + a < X
    · rw [Nat.mod_eq_of_lt hc, if_neg (by omega), Nat.div_eq_of_lt hc]
    · rw [Nat.mod_eq_sub_mod (by omega), Nat.mod_eq_of_lt (by omega), if_pos (by omega), Nat.div_eq_sub_div hX (by omega), Nat.div_eq_of_lt (by omega)]
  rw [e1, e1, add_digit _ _ _ _ hB, add_carry _ _ _ _ hB]
  have := Nat.div_add_mod (cry B v d i + v / B ^ i % B + d / B ^ i % B) B
  omega
/-- below: the first place from above that differs. -/
theorem lt_of_digit {B u v i : Nat} (hB : 0 < B) (h : u / B ^ (i + 1) = v / B ^ (i + 1)) (hd : u / B ^ i % B < v / B ^ i % B) : u < v := by
  have hX : 0 < B ^ i := Nat.pow_pos hB
  rw [Nat.pow_succ, ← Nat.div_div_eq_div_mul, ← Nat.div_div_eq_div_mul] at h
  have h1 := Nat.div_add_mod (u / B ^ i) B
  have h2 := Nat.div_add_mod (v / B ^ i) B
  rw [h] at h1
  refine Nat.lt_of_not_le fun hle => ?_
  have := Nat.div_le_div_right (c := B ^ i) hle
  omega
theorem div_of_digit {B u v i : Nat} (h : u / B ^ (i + 1) = v / B ^ (i + 1)) (hd : u / B ^ i % B = v / B ^ i % B) : u / B ^ i = v / B ^ i := by
  rw [Nat.pow_succ, ← Nat.div_div_eq_div_mul, ← Nat.div_div_eq_div_mul] at h
  rw [← Nat.div_add_mod (u / B ^ i) B, ← Nat.div_add_mod (v / B ^ i) B, h, hd]
end MS

/-
  Numbers in digits to the base 65536, modulo 2^255 - 19: plain facts. No program stands in them.
-/
namespace MS
def lo255 (u : Nat) : Nat := u % 2 ^ 255
def hi255 (u : Nat) : Nat := u / 2 ^ 255
theorem p255 : (2 : Nat) ^ 255 = 65536 ^ 15 * 32768 := by decide
theorem lo_dig (u i : Nat) (h : i < 15) : lo255 u / 65536 ^ i % 65536 = u / 65536 ^ i % 65536 := by
  rw [← dig_mod 65536 15 (lo255 u) i h, ← dig_mod 65536 15 u i h, lo255, p255, Nat.mod_mul_right_mod]
theorem lo_dig15 (u : Nat) : lo255 u / 65536 ^ 15 % 65536 = u / 65536 ^ 15 % 65536 % 32768 := by
  rw [lo255, p255, Nat.mod_mul_right_div_self]
  omega
theorem hi_dig (u j : Nat) : hi255 u / 65536 ^ j % 65536 = u / 65536 ^ (15 + j) % 65536 / 32768 + u / 65536 ^ (15 + j + 1) % 65536 % 32768 * 2 := by
  have e : hi255 u / 65536 ^ j = u / 65536 ^ (15 + j) / 32768 := by
    rw [hi255, p255, Nat.div_div_eq_div_mul, Nat.div_div_eq_div_mul, Nat.pow_add]
    congr 1
    rw [Nat.mul_assoc, Nat.mul_assoc, Nat.mul_comm 32768]
  rw [e, Nat.pow_succ, ← Nat.div_div_eq_div_mul]
  generalize u / 65536 ^ (15 + j) = X
  omega
theorem lo_lt (u : Nat) : lo255 u < 65536 ^ 16 := Nat.lt_trans (Nat.mod_lt _ (by decide)) (by decide)
theorem hi_lt {u n : Nat} (h : u < 65536 ^ n) (hn : 15 ≤ n) : hi255 u < 65536 ^ (n - 15) := by
  obtain ⟨m, rfl⟩ : ∃ m, n = 15 + m := ⟨n - 15, by omega⟩
  rw [hi255, Nat.div_lt_iff_lt_mul (by decide), p255, Nat.add_sub_cancel_left]
  refine Nat.lt_of_lt_of_le h ?_
  rw [Nat.pow_add, Nat.mul_comm, ← Nat.mul_assoc]
  exact Nat.le_mul_of_pos_right _ (by decide)
theorem fold_mod (u : Nat) : (lo255 u + 19 * hi255 u) % Q' = u % Q' := by
  have h := Nat.div_add_mod u (2 ^ 255)
  have e : u = lo255 u + 19 * hi255 u + Q' * hi255 u := by
    unfold lo255 hi255 Q'
    omega
  conv => rhs; rw [e, Nat.add_mul_mod_self_left]
theorem fold_lt {u : Nat} (h : hi255 u ≠ 0) : lo255 u + 19 * hi255 u < u := by
  have h1 := Nat.div_add_mod u (2 ^ 255)
  unfold lo255 hi255 at *
  omega
theorem fold_same {u : Nat} (h : hi255 u = 0) : lo255 u = u := by
  have h1 := Nat.div_add_mod u (2 ^ 255)
  unfold lo255 hi255 at *
  omega
theorem hi_zero {u : Nat} : hi255 u = 0 ↔ u < 2 ^ 255 := by
  unfold hi255
  omega
/-- Sixteen digits, the highest below 32768: less than 2^255. -/
theorem hi_top {u : Nat} (h : u < 65536 ^ 16) : (32767 < u / 65536 ^ 15 % 65536) ↔ hi255 u ≠ 0 := by
  rw [Ne, hi_zero]
  have h1 : u / 65536 ^ 15 < 65536 := by
    rw [Nat.div_lt_iff_lt_mul (by decide), Nat.mul_comm, ← Nat.pow_succ]; exact h
  rw [Nat.mod_eq_of_lt h1, p255]
  have h2 := Nat.div_lt_iff_lt_mul (x := u) (y := 32768) (k := 65536 ^ 15) (by decide)
  rw [Nat.mul_comm 32768] at h2
  omega
theorem red_end {u : Nat} (h : hi255 u = 0) : u % Q' = if u < Q' then u else u - Q' := by
  have := hi_zero.1 h
  unfold Q'
  split <;> omega
end MS

/-
  Powers modulo 2^255 - 19: the document's and the program's ways to 2^255 - 21. No program stands in them.
-/
namespace MS
def E21 : Nat := 57896044618658097711785492504343953926634992332820282019728792003956564819947
theorem E21_bits : ∀ i : Fin 255, E21 / 2 ^ i.1 % 2 = if i.1 = 2 ∨ i.1 = 4 then 0 else 1 := by decide +kernel
theorem E21_top : E21 / 2 ^ 255 = 0 := by decide +kernel
theorem E21_step (i : Nat) (h : i < 255) : E21 / 2 ^ i = 2 * (E21 / 2 ^ (i + 1)) + if i = 2 ∨ i = 4 then 0 else 1 := by
  have h1 := E21_bits ⟨i, h⟩
  simp only at h1
  rw [← h1, Nat.pow_succ, ← Nat.div_div_eq_div_mul]
  omega
/-- What the document's loop holds when the bits above i are done. -/
def powA (a i : Nat) : Nat := a ^ (E21 / 2 ^ i) % Q'
theorem powA_top (a : Nat) : powA a 255 = 1 := by unfold powA; rw [E21_top, Nat.pow_zero]; decide
theorem powA_end (a : Nat) : powA a 0 = a ^ E21 % Q' := by unfold powA; rw [Nat.pow_zero, Nat.div_one]
theorem powA_sq (a i : Nat) (h : i < 255) (hi : i = 2 ∨ i = 4) : powA a (i + 1) * powA a (i + 1) % Q' = powA a i := by
  unfold powA
  rw [E21_step i h, if_pos hi, Nat.add_zero, ← Nat.mul_mod]
  generalize E21 / 2 ^ (i + 1) = n
  rw [Nat.two_mul, Nat.pow_add, Nat.pow_add, Nat.pow_zero, Nat.mul_one]
theorem powA_sqm (a i : Nat) (h : i < 255) (hi : ¬ (i = 2 ∨ i = 4)) : (powA a (i + 1) * powA a (i + 1) % Q') * (a % Q') % Q' = powA a i := by
  unfold powA
  rw [E21_step i h, if_neg hi]
  generalize E21 / 2 ^ (i + 1) = n
  rw [Nat.two_mul, Nat.pow_succ, Nat.pow_add, Nat.mul_mod (a ^ n * a ^ n), Nat.mul_mod (a ^ n) (a ^ n)]
theorem powA_lt (a i : Nat) : powA a i < Q' := Nat.mod_lt _ (by decide)
/-- A number that is a power of a. -/
def pw (a n : Nat) : Nat := a ^ n
def isP (a : Nat) (x : N5) (n : Nat) : Prop := x.v % Q' = pw a n % Q'
theorem isP_mul {a n m : Nat} {x y : N5} (hx : isP a x n) (hy : isP a y m) : isP a (mul x y) (n + m) := by
  unfold isP pw at *
  rw [mul_mod, Nat.mul_mod, hx, hy, ← Nat.mul_mod, ← Nat.pow_add]
def sqs (x : N5) : Nat → N5
  | 0 => x
  | n + 1 => mul (sqs x n) (sqs x n)
theorem isP_sqs {a m : Nat} {x : N5} (hx : isP a x m) (n : Nat) : isP a (sqs x n) (m * 2 ^ n) := by
  induction n with
  | zero => rw [Nat.pow_zero, Nat.mul_one]; exact hx
  | succ n ih =>
    rw [sqs, Nat.pow_succ, ← Nat.mul_assoc, Nat.mul_two]
    exact isP_mul ih ih
theorem sqs_nar {x : N5} (hx : x.nar) (n : Nat) : (sqs x n).nar := by
  induction n with
  | zero => exact hx
  | succ n ih => exact mul_nar (nar_ok ih) (nar_ok ih)
/-- The program's chain. -/
def invN (a : N5) : N5 :=
  let p2 := mul a a
  let p9 := mul (sqs p2 2) a
  let p11 := mul p9 p2
  let o5 := mul (sqs p11 1) p9
  let o10 := mul (sqs o5 5) o5
  let o20 := mul (sqs o10 10) o10
  let o40 := mul (sqs o20 20) o20
  let o50 := mul (sqs o40 10) o10
  let o100 := mul (sqs o50 50) o50
  let o200 := mul (sqs o100 100) o100
  let o250 := mul (sqs o200 50) o50
  mul (sqs o250 5) p11
theorem invN_mod (a : N5) : (invN a).v % Q' = a.v ^ E21 % Q' := by
  have h0 : isP a.v a 1 := by unfold isP pw; rw [Nat.pow_one]
  have p2 := isP_mul h0 h0
  have p9 := isP_mul (isP_sqs p2 2) h0
  have p11 := isP_mul p9 p2
  have o5 := isP_mul (isP_sqs p11 1) p9
  have o10 := isP_mul (isP_sqs o5 5) o5
  have o20 := isP_mul (isP_sqs o10 10) o10
  have o40 := isP_mul (isP_sqs o20 20) o20
  have o50 := isP_mul (isP_sqs o40 10) o10
  have o100 := isP_mul (isP_sqs o50 50) o50
  have o200 := isP_mul (isP_sqs o100 100) o100
  have o250 := isP_mul (isP_sqs o200 50) o50
  have e := isP_mul (isP_sqs o250 5) p11
  unfold isP at e
  generalize a.v = z at e ⊢
  have key : ∀ n N, n = N → pw z n % Q' = z ^ N % Q' := fun n N h => by rw [h]; rfl
  obtain ⟨N, hN⟩ : ∃ N, E21 = N := ⟨_, rfl⟩
  rw [hN]
  exact e.trans (key _ N (by rw [← hN]; decide +kernel))
theorem invN_nar {a : N5} (h : a.ok) : (invN a).nar := by
  have p2 := mul_nar h h
  have p9 := mul_nar (nar_ok (sqs_nar p2 2)) h
  have p11 := mul_nar (nar_ok p9) (nar_ok p2)
  have o5 := mul_nar (nar_ok (sqs_nar p11 1)) (nar_ok p9)
  have o10 := mul_nar (nar_ok (sqs_nar o5 5)) (nar_ok o5)
  have o20 := mul_nar (nar_ok (sqs_nar o10 10)) (nar_ok o10)
  have o40 := mul_nar (nar_ok (sqs_nar o20 20)) (nar_ok o20)
  have o50 := mul_nar (nar_ok (sqs_nar o40 10)) (nar_ok o10)
  have o100 := mul_nar (nar_ok (sqs_nar o50 50)) (nar_ok o50)
  have o200 := mul_nar (nar_ok (sqs_nar o100 100)) (nar_ok o100)
  have o250 := mul_nar (nar_ok (sqs_nar o200 50)) (nar_ok o50)
  exact mul_nar (nar_ok (sqs_nar o250 5)) (nar_ok p11)
end MS

/-
  fe.Small, fe.squares, fe.Swap: the walks.
-/
namespace Go.Proofs.Ythlmphloalbhnaa
open Go.RowKit MS

set_option maxRecDepth 100000 in
set_option maxHeartbeats 1000000 in
theorem fesmall_any (x : N5) (n : Nat) (hx : x.ok) (hn : n < 4294967296) (w : World) :
    Calls Try.prog 20 #[.agg (nvA x), .int .u32 (n : Int)] w fun e w' => e = .returned (.agg (nvA (mul x ⟨n, 0, 0, 0, 0⟩))) ∧ Below w.heap.size w w' := by
  have M := Lib.hid (fun w => femul_any x ⟨n, 0, 0, 0, 0⟩ hx ⟨by show n < _; omega, by show 0 < _; decide, by show 0 < _; decide, by show 0 < _; decide, by show 0 < _; decide⟩ w)
  have R0 := Lib.hid (rw2 w (nvA x) (rowF (fun _ => 0)))
  have IX := Lib.hid (infoV x)
  have IM := Lib.hid (infoV (mul x ⟨n, 0, 0, 0, 0⟩))
  have OM := Lib.hid (one_nvA (mul x ⟨n, 0, 0, 0, 0⟩))
  have LM := Lib.hid (show (rowF (fun _ => 0)).size = (nvA (mul x ⟨n, 0, 0, 0, 0⟩)).size from rfl)
  have hn0 : (0 : Int) ≤ n := by omega
  have hn1 : (n : Int) ≤ 4294967295 := by omega
  rw [show nvA ⟨n, 0, 0, 0, 0⟩ = #[.int .u64 (n : Int), .int .u64 0, .int .u64 0, .int .u64 0, .int .u64 0] from rfl] at M
  generalize nvA (mul x ⟨n, 0, 0, 0, 0⟩) = rm at M IM OM LM ⊢
  generalize nvA x = rx at M R0 IX ⊢
  clear hx hn
  go_enter Try.func20, Try.ntmps20
  go_upto_region 1 with fail
  rw [show (w.alloc (.cells rx 24 (0, 0))).alloc (.cells #[.int .u64 0, .int .u64 0, .int .u64 0, .int .u64 0, .int .u64 0] 24 (0, 0)) = (w.alloc (.cells rx 24 (0, 0))).alloc (.cells (rowF (fun _ => 0)) 24 (0, 0)) from rfl]
  generalize (w.alloc (.cells rx 24 (0, 0))).alloc (.cells (rowF (fun _ => 0)) 24 (0, 0)) = W at R0 ⊢
  have RA := Lib.hid (R0.out.row 0)
  go_wp2_with (with_reducible refine wpList_load_row rfl 24 (.tmp 2) rfl w.heap.size rfl 24 rx (0, 0) _ RA.out Try.underlying24 rfl IX.out ?_)
  refine (M.out _).mono ?_
  rintro e w5 ⟨rfl, hb5⟩
  have R1 := Lib.hid (R0.out.on hb5)
  have RB := Lib.hid (R1.out.row 1)
  clear hb5
  go_wp2_with (with_reducible refine wpList_store_row rfl 24 (.tmp 4) (.tmp 9) rfl (w.heap.size + 1) rm rfl rfl 24 (rowF (fun _ => 0)) RB.out IM.out LM.out OM.out ?_)
  have R2 := R1.out.store 1 rm
  exact bodyPost_ret (results_cell_row rfl _ _ (w.heap.size + 1) 24 rm (0, 0) _ rfl (R2.row 1) Try.underlying24 rfl IM.out) rfl ⟨rfl, R2.bel⟩

theorem sqs_ok {x : N5} (hx : x.ok) (n : Nat) : (sqs x n).ok := by
  induction n with
  | zero => exact hx
  | succ n ih => exact nar_ok (mul_nar ih ih)
set_option maxRecDepth 100000 in
set_option maxHeartbeats 1000000 in
theorem squares_any (x : N5) (n : Nat) (hx : x.ok) (hn : n ≤ 1000) (w : World) :
    Calls Try.prog 47 #[.agg (nvA x), .int .i64 (n : Int)] w fun e w' => e = .returned (.agg (nvA (sqs x n))) ∧ Below w.heap.size w w' := by
  have M := Lib.hid (fun k w => femul_any (sqs x k) (sqs x k) (sqs_ok hx k) (sqs_ok hx k) w)
  have R0 := Lib.hid (show Rw w [(w.heap.size, nvA (sqs x 0), 24), (w.heap.size + 1, rowF (fun _ => 0), 24)] ((w.alloc (.cells (nvA x) 24 (0, 0))).alloc (.cells (rowF (fun _ => 0)) 24 (0, 0))) from rw2 w (nvA x) (rowF (fun _ => 0)))
  have HM := Lib.hid (show ∀ k, mul (sqs x k) (sqs x k) = sqs x (k + 1) from fun k => rfl)
  have II := Lib.hid (fun y => infoV y)
  have OO := Lib.hid (fun y => one_nvA y)
  have hn1 : (n : Int) ≤ 1000 := by omega
  have HN := Lib.hid hn
  generalize hs : sqs x = s at M R0 HM ⊢
  clear hs hx hn
  go_enter Try.func47, Try.ntmps47
  go_upto_region 1 with fail
  rw [show (w.alloc (.cells (nvA x) 24 (0, 0))).alloc (.cells #[.int .u64 0, .int .u64 0, .int .u64 0, .int .u64 0, .int .u64 0] 24 (0, 0)) = (w.alloc (.cells (nvA x) 24 (0, 0))).alloc (.cells (rowF (fun _ => 0)) 24 (0, 0)) from rfl]
  generalize (w.alloc (.cells (nvA x) 24 (0, 0))).alloc (.cells (rowF (fun _ => 0)) 24 (0, 0)) = W at R0 ⊢
  generalize hA : w.heap.size = ga at *
  generalize hB : ga + 1 = gb at *
  clear hA hB
  go_wp2_with fail
  go_loopw [6] (fun c wr => ∃ k : Nat, k ≤ n ∧ c = .int .i64 k ∧ Rw w [(ga, nvA (s k), 24), (gb, rowF (fun _ => 0), 24)] wr) (fun c _ => n - (intOf c).toNat)
  case atStart => exact ⟨0, by omega, rfl, R0.out⟩
  case round =>
    obtain ⟨k, hk, rfl, hr⟩ := hrel
    have R1 := Lib.hid hr
    have RA := Lib.hid (hr.row 0)
    clear hr R0
    by_cases hlt : k < n
    · have k1 : (k : Int) < n := by omega
      have k0 : (0 : Int) ≤ k := by omega
      have HLT := Lib.hid hlt
      have IS := Lib.hid (II.out (s k))
      have IN := Lib.hid (II.out (s (k + 1)))
      have ON := Lib.hid (OO.out (s (k + 1)))
      have LN := Lib.hid (show (nvA (s k)).size = (nvA (s (k + 1))).size from rfl)
      clear hlt hk
      go_wp2_with (with_reducible refine wpList_load_row rfl 24 (.tmp 2) rfl ga rfl 24 (nvA (s k)) (0, 0) _ RA.out Try.underlying24 rfl IS.out ?_)
      refine (M.out k _).mono ?_
      rintro e w5 ⟨rfl, hb5⟩
      rw [HM.out k]
      have R2 := Lib.hid (R1.out.on hb5)
      have RB := Lib.hid (R2.out.row 0)
      have R3 := Lib.hid (R2.out.store 0 (nvA (s (k + 1))))
      clear hb5
      go_wp2_with (with_reducible refine wpList_store_row rfl 24 (.tmp 2) (.tmp 10) rfl ga (nvA (s (k + 1))) rfl rfl 24 (nvA (s k)) RB.out IN.out LN.out ON.out ?_)
      go_roundw
      case rel => exact ⟨k + 1, HLT.out, by go_num, R3.out⟩
      case measure => simp [intOf]; omega
    · have k1 : ¬ ((k : Int) < n) := by omega
      have hkn : k = n := by omega
      rw [hkn] at R1 RA
      have RB := Lib.hid (R1.out.row 1)
      have IS := Lib.hid (II.out (s n))
      have OS := Lib.hid (OO.out (s n))
      have LS := Lib.hid (show (rowF (fun _ => 0)).size = (nvA (s n)).size from rfl)
      clear hkn hlt hk
      go_wp2_with (first
        | (with_reducible refine wpList_load_row rfl 24 (.tmp 2) rfl ga rfl 24 (nvA (s n)) (0, 0) _ RA.out Try.underlying24 rfl IS.out ?_)
        | (with_reducible refine wpList_store_row rfl 24 (.tmp 4) (.tmp 12) rfl gb (nvA (s n)) rfl rfl 24 (rowF (fun _ => 0)) RB.out IS.out LS.out OS.out ?_))
      have R4 := R1.out.store 1 (nvA (s n))
      exact bodyPost_ret (results_cell_row rfl _ _ gb 24 (nvA (s n)) (0, 0) _ rfl (R4.row 1) Try.underlying24 rfl IS.out) rfl ⟨rfl, R4.bel⟩
end Go.Proofs.Ythlmphloalbhnaa

/-
  fe.Swap: the walk.
-/
namespace Go.Proofs.Ythlmphloalbhnaa
open Go.RowKit MS

theorem xor_all (a : Nat) (h : a < 18446744073709551616) : bits .and .u64 (a : Int) 18446744073709551615 = (a : Int) := by
  have := u64_and_nat a 18446744073709551615 h (by decide)
  rw [show ((18446744073709551615 : Nat) : Int) = 18446744073709551615 from rfl] at this
  rw [this, show (18446744073709551615 : Nat) = 2 ^ 64 - 1 from rfl, Nat.and_two_pow_sub_one_eq_mod, Nat.mod_eq_of_lt h]
section
variable {P : Program}
theorem step_load_row {o : Oper} {a : Act} {w : World} {K : Act → World → Prop} {Q : Exit → Act → World → Prop} {Y : Nat → Option Bool} (hgd : o.guard = none) (ty : TypeId) (x : Operand) (ho : o.op = .load ty x)
    (g : Nat) (hx : a.eval x = .pointer (some ⟨g, 0, none⟩)) (t : TypeId) (cs : Array Value) (fr : Nat × Nat) (d : TypeDesc) (hg : w.heap[g]? = some (.cells cs t fr))
    (hu : P.underlying ty = some d) (hd : (match d with | .struct _ | .array _ _ => true | _ => false) = true) (hi : (P.info? ty).map (·.size) = some cs.size)
    (h : K (a.put o.dst (.agg cs)) w) : if Region.wanted o Y = true then Oper.wp P o a w K Q else K (a.put o.dst undef) w := by
  rw [if_pos (by simp [Region.wanted, hgd])]
  exact wp_load_row ty x ho g hx t cs fr d hg hu hd hi h
theorem step_store_row {o : Oper} {a : Act} {w : World} {K : Act → World → Prop} {Q : Exit → Act → World → Prop} {Y : Nat → Option Bool} (hgd : o.guard = none) (ty : TypeId) (x y : Operand) (ho : o.op = .store ty x y)
    (g : Nat) (cells : Array Value) (hx : a.eval x = .pointer (some ⟨g, 0, none⟩)) (hy : a.eval y = .agg cells)
    (t : TypeId) (old : Array Value) (hg : w.heap[g]? = some (.cells old t (0, 0))) (hi : (P.info? ty).map (·.size) = some cells.size)
    (hold : old.size = cells.size) (h1 : cells.all (·.oneCell') = true)
    (h : K (a.put o.dst undef) (w.setRow g cells)) : if Region.wanted o Y = true then Oper.wp P o a w K Q else K (a.put o.dst undef) w := by
  rw [if_pos (by simp [Region.wanted, hgd])]
  exact wp_store_row ty x y ho g cells hx hy t old hg hi hold h1 h
theorem results_two_rows {fn : Func} {p q : Tmp} {ty tz : TypeId} (h : fn.results = #[.cell p ty, .cell q tz]) (tmps : Array Value) (w : World) (g k : Nat) (t s : TypeId) (cs ds : Array Value) (fr fs : Nat × Nat) (d e : TypeDesc)
    (hp : tmps.getD p undef = .pointer (some ⟨g, 0, none⟩)) (hq : tmps.getD q undef = .pointer (some ⟨k, 0, none⟩)) (hg : w.heap[g]? = some (.cells cs t fr)) (hk : w.heap[k]? = some (.cells ds s fs))
    (hu : P.underlying ty = some d) (hd : (match d with | .struct _ | .array _ _ => true | _ => false) = true) (hi : (P.info? ty).map (·.size) = some cs.size)
    (hv : P.underlying tz = some e) (he : (match e with | .struct _ | .array _ _ => true | _ => false) = true) (hj : (P.info? tz).map (·.size) = some ds.size) :
    (results fn tmps).run P w = .ok (.tuple #[.agg cs, .agg ds]) w := by
  have hp' : tmps[p]?.getD undef = .pointer (some ⟨g, 0, none⟩) := by simpa using hp
  have hq' : tmps[q]?.getD undef = .pointer (some ⟨k, 0, none⟩) := by simpa using hq
  simp [results, h, hp', hq', asAddr, run_loadVar_row w g t ty cs fr d hg hu hd hi, run_loadVar_row w k s tz ds fs e hk hv he hj]
end
theorem all_ones : bits .xor .u64 IntKind.u64.max 0 = 18446744073709551615 := by
  have := u64_xor_nat 18446744073709551615 0 (by decide) (by decide)
  rw [Nat.xor_zero] at this
  exact this
theorem and_none (a : Nat) (h : a < 18446744073709551616) : bits .and .u64 (a : Int) 0 = 0 := by
  have := u64_and_nat a 0 h (by decide)
  rw [Nat.and_zero] at this
  exact this
theorem rw4 (w : World) (r0 r1 r2 r3 : Array Value) : Rw w [(w.heap.size, r0, 24), (w.heap.size + 1, r1, 24), (w.heap.size + 1 + 1, r2, 24), (w.heap.size + 1 + 1 + 1, r3, 24)]
    ((((w.alloc (.cells r0 24 (0, 0))).alloc (.cells r1 24 (0, 0))).alloc (.cells r2 24 (0, 0))).alloc (.cells r3 24 (0, 0))) := by
  have h := ((((Rw.nil w).alloc r0 24).alloc r1 24).alloc r2 24).alloc r3 24
  simpa using h
theorem ok_get {x : N5} (h : x.ok) (j : Nat) : getN x j < 18446744073709551616 := by
  obtain ⟨h1, h2, h3, h4, h5⟩ := h
  unfold getN
  split <;> assumption
def sel (b : Bool) (x y : Nat) : Nat := if b then x else y
/-- What Swap makes of the first and of the second. -/
def swA (x y : N5) (yes : Bool) : N5 := if yes then y else x

set_option maxRecDepth 100000 in
set_option maxHeartbeats 2000000 in
theorem swap_any (x y : N5) (yes : Bool) (hx : x.ok) (hy : y.ok) (w : World) :
    Calls Try.prog 27 #[.agg (nvA x), .agg (nvA y), .bool yes] w fun e w' => e = .returned (.tuple #[.agg (nvA (swA x y yes)), .agg (nvA (swA y x yes))]) ∧ Below w.heap.size w w' := by
  have BX := Lib.hid (ok_get hx)
  have BY := Lib.hid (ok_get hy)
  have R0 := Lib.hid (show Rw w [(w.heap.size, rowF (getN x), 24), (w.heap.size + 1, rowF (getN y), 24), (w.heap.size + 1 + 1, rowF (fun _ => 0), 24), (w.heap.size + 1 + 1 + 1, rowF (fun _ => 0), 24)] ((((w.alloc (.cells (nvA x) 24 (0, 0))).alloc (.cells (nvA y) 24 (0, 0))).alloc (.cells #[.int .u64 0, .int .u64 0, .int .u64 0, .int .u64 0, .int .u64 0] 24 (0, 0))).alloc (.cells #[.int .u64 0, .int .u64 0, .int .u64 0, .int .u64 0, .int .u64 0] 24 (0, 0))) from rw4 w (nvA x) (nvA y) (rowF (fun _ => 0)) (rowF (fun _ => 0)))
  have HA := Lib.hid (show rowF (fun i => sel yes (getN y i) (getN x i)) = nvA (swA x y yes) by cases yes <;> rfl)
  have HB := Lib.hid (show rowF (fun i => sel yes (getN x i) (getN y i)) = nvA (swA y x yes) by cases yes <;> rfl)
  have II := Lib.hid (fun y => infoV y)
  have OO := Lib.hid (fun y => one_nvA y)
  generalize swA x y yes = ra at *
  generalize swA y x yes = rb at *
  generalize hrx : nvA x = rx at *
  generalize hry : nvA y = ry at *
  generalize hX : getN x = X at *
  generalize hY : getN y = Y at *
  clear hrx hry hX hY hx hy
  have hsg : ¬ (IntKind.u64.signed = true) := by decide
  obtain ⟨AL, hAL⟩ : ∃ AL : Int, bits .xor .u64 IntKind.u64.max 0 = AL := ⟨_, rfl⟩
  have PAL := Lib.hid (show ∀ a : Nat, a < 18446744073709551616 → bits .and .u64 (a : Int) AL = (a : Int) from fun a h => by rw [← hAL, all_ones]; exact xor_all a h)
  by_cases hyes : yes = true
  case' pos =>
    rw [hyes]
    have HYE := Lib.hid hyes
    clear hyes
    go_enter Try.func27, Try.ntmps27
    go_upto_region 1 with fail
    generalize (((w.alloc (.cells rx 24 (0, 0))).alloc (.cells ry 24 (0, 0))).alloc (.cells #[.int .u64 0, .int .u64 0, .int .u64 0, .int .u64 0, .int .u64 0] 24 (0, 0))).alloc (.cells #[.int .u64 0, .int .u64 0, .int .u64 0, .int .u64 0, .int .u64 0] 24 (0, 0)) = W at R0 ⊢
    go_wp2_with fail
    have PM := Lib.hid (show ∀ a : Nat, a < 18446744073709551616 → bits .and .u64 (a : Int) AL = ((sel yes a 0 : Nat) : Int) from fun a h => by rw [HYE.out]; exact PAL.out a h)
    generalize AL = M at PM ⊢
  case' neg =>
    have hyes' : yes = false := by simpa using hyes
    rw [hyes']
    have HYE := Lib.hid hyes'
    clear hyes hyes'
    go_enter Try.func27, Try.ntmps27
    go_upto_region 1 with fail
    generalize (((w.alloc (.cells rx 24 (0, 0))).alloc (.cells ry 24 (0, 0))).alloc (.cells #[.int .u64 0, .int .u64 0, .int .u64 0, .int .u64 0, .int .u64 0] 24 (0, 0))).alloc (.cells #[.int .u64 0, .int .u64 0, .int .u64 0, .int .u64 0, .int .u64 0] 24 (0, 0)) = W at R0 ⊢
    go_wp2_with fail
    have PM := Lib.hid (show ∀ a : Nat, a < 18446744073709551616 → bits .and .u64 (a : Int) 0 = ((sel yes a 0 : Nat) : Int) from fun a h => by rw [HYE.out]; exact and_none a h)
    obtain ⟨M, hM⟩ : ∃ M : Int, (0 : Int) = M := ⟨_, rfl⟩
    rw [hM] at PM
    have HM0 := Lib.hid hM
    rw [show Value.int IntKind.u64 0 = Value.int IntKind.u64 M from by rw [hM]]
    clear hM
  all_goals
    clear hAL PAL hsg
    generalize hga : w.heap.size = ga at *
    generalize hgb : ga + 1 = gb at *
    generalize hgc : gb + 1 = gc at *
    generalize hgd : gc + 1 = gd at *
    clear hga hgb hgc hgd
    go_loopw [14] (fun c wr => ∃ j : Nat, j ≤ 5 ∧ c = .int .i64 j ∧ Rw w [(ga, rowF (prog X (fun i => sel yes (Y i) (X i)) j), 24), (gb, rowF (prog Y (fun i => sel yes (X i) (Y i)) j), 24), (gc, rowF (fun _ => 0), 24), (gd, rowF (fun _ => 0), 24)] wr) (fun c _ => 5 - (intOf c).toNat)
    case atStart => exact ⟨0, by omega, rfl, by rw [prog_zero, prog_zero]; exact R0.out⟩
    case round =>
      obtain ⟨j, hj, rfl, hr⟩ := hrel
      have R1 := Lib.hid hr
      clear hr R0
      by_cases hlt : j < 5
      · have j1 : (j : Int) < 5 := by omega
        have j0 : (0 : Int) ≤ j := by omega
        have HLT := Lib.hid hlt
        have ca := R1.out.cell 0 j (rowF_get _ _ hlt)
        have cb := R1.out.cell 1 j (rowF_get _ _ hlt)
        rw [prog_at] at ca cb
        have bx := BX.out j
        have bb := BY.out j
        obtain ⟨x1, hx1⟩ : ∃ c, X j ^^^ Y j = c := ⟨_, rfl⟩
        have q1 := u64_xor_nat (X j) (Y j) bx bb
        rw [hx1] at q1
        have bx1 : x1 < 18446744073709551616 := by rw [← hx1]; exact Nat.xor_lt_two_pow (n := 64) bx bb
        obtain ⟨d, hd⟩ : ∃ d, sel yes x1 0 = d := ⟨_, rfl⟩
        have q2 := PM.out x1 bx1
        rw [hd] at q2
        have bd : d < 18446744073709551616 := by rw [← hd, sel]; split; exact bx1; decide
        have q3 := u64_xor_nat (X j) d bx bd
        have q4 := u64_xor_nat (Y j) d bb bd
        have e3 : X j ^^^ d = sel yes (Y j) (X j) := by
          rw [← hd, ← hx1]
          cases yes
          · simp [sel]
          · simp [sel, ← Nat.xor_assoc]
        have e4 : Y j ^^^ d = sel yes (X j) (Y j) := by
          rw [← hd, ← hx1]
          cases yes
          · simp [sel]
          · simp [sel, Nat.xor_comm (X j), ← Nat.xor_assoc]
        rw [e3] at q3
        rw [e4] at q4
        clear e3 e4 hd hx1 bx bb bx1 bd
        have Q3 := Lib.hid q3
        have Q4 := Lib.hid q4
        clear q3 q4
        go_wp2_with fail
        go_quiet (fail)
        have R2 := Lib.hid (R1.out.drewN nq)
        generalize wr.drewN nq = w8 at R2 ⊢
        clear q1 q2 ca cb
        have ca := R2.out.cell 0 j (rowF_get _ _ HLT.out)
        rw [prog_at] at ca
        have fa := R2.out.free 0 j
        have q3 := Q3.out
        have put := R2.out.put 0 j (.int .u64 ((sel yes (Y j) (X j) : Nat) : Int))
        have cb := put.cell 1 j (rowF_get _ _ HLT.out)
        rw [prog_at] at cb
        have fb := put.free 1 j
        have q4 := Q4.out
        have put2 := put.put 1 j (.int .u64 ((sel yes (X j) (Y j) : Nat) : Int))
        rw [rowF_set _ _ _ HLT.out, rowF_set _ _ _ HLT.out, prog_set X (fun i => sel yes (Y i) (X i)) j, prog_set Y (fun i => sel yes (X i) (Y i)) j] at put2
        have PUT := Lib.hid put2
        generalize sel yes (Y j) (X j) = xa at *
        generalize sel yes (X j) (Y j) = ya at *
        clear put put2
        go_wp2_with fail
        go_roundw
        case rel => exact ⟨j + 1, HLT.out, by go_num, PUT.out⟩
        case measure => simp [intOf]; omega
      · have j1 : ¬ ((j : Int) < 5) := by omega
        have hj5 : j = 5 := by omega
        have r2 := R1.out
        rw [hj5, prog_end, prog_end, HA.out, HB.out] at r2
        have R2 := Lib.hid r2
        clear r2 hj5 hlt hj R1
        have IA := Lib.hid (II.out ra)
        have IB := Lib.hid (II.out rb)
        have OA := Lib.hid (OO.out ra)
        have OB := Lib.hid (OO.out rb)
        have LA := Lib.hid (show (rowF (fun _ => 0)).size = (nvA ra).size from rfl)
        have LB := Lib.hid (show (rowF (fun _ => 0)).size = (nvA rb).size from rfl)
        have RA := Lib.hid (R2.out.row 0)
        have RB := Lib.hid (R2.out.row 1)
        have RC := Lib.hid (R2.out.drew.row 2)
        have R3 := Lib.hid (R2.out.drew.store 2 (nvA ra))
        have RB3 := Lib.hid (R3.out.row 1)
        have RD := Lib.hid (R3.out.row 3)
        have R4 := Lib.hid (R3.out.store 3 (nvA rb))
        go_wp2_with fail
        refine wp_region_any (by kernel_rfl) ?_
        change wpAny _ _ _ _ _ _ _ (World.drew _)
        refine wpAny_ready (rs := [0, 1]) (by kernel_rfl) (by simp) ?_
        refine AllReady.cons rfl (fun K hK => ?_) (AllReady.cons rfl (fun K hK => ?_) AllReady.nil)
        · skip
          refine step_load_row (by rfl) 24 (.tmp 3) (by rfl) ga (by rfl) 24 (nvA ra) (0, 0) _ RA.out Try.underlying24 rfl IA.out (hK _ _ ?_)
          clear hK K
          simp only [List.getElem_toArray, List.getElem_cons_zero, Act.put, List.setIfInBounds_toArray, List.set_cons_zero, List.set_cons_succ]
          refine wpAny_ready (rs := [1, 2]) (by kernel_rfl) (by simp) ?_
          refine AllReady.cons rfl (fun K hK => ?_) (AllReady.cons rfl (fun K hK => ?_) AllReady.nil)
          · skip
            refine step_load_row (by rfl) 24 (.tmp 4) (by rfl) gb (by rfl) 24 (nvA rb) (0, 0) _ RB.out Try.underlying24 rfl IB.out (hK _ _ ?_)
            clear hK K
            simp only [List.getElem_toArray, List.getElem_cons_zero, List.getElem_cons_succ, Act.put, List.setIfInBounds_toArray, List.set_cons_zero, List.set_cons_succ]
            refine wpAny_ready (rs := [2]) (by kernel_rfl) (by simp) ?_
            refine AllReady.cons rfl (fun K hK => ?_) AllReady.nil
            refine step_store_row (by rfl) 24 (.tmp 6) (.tmp 39) (by rfl) gc (nvA ra) (by rfl) (by rfl) 24 (rowF (fun _ => 0)) RC.out IA.out LA.out OA.out (hK _ _ ?_)
            clear hK K
            simp only [List.getElem_toArray, List.getElem_cons_zero, List.getElem_cons_succ, Act.put]
            refine wpAny_ready (rs := [3]) (by kernel_rfl) (by simp) ?_
            refine AllReady.cons rfl (fun K hK => ?_) AllReady.nil
            refine step_store_row (by rfl) 24 (.tmp 7) (.tmp 40) (by rfl) gd (nvA rb) (by rfl) (by rfl) 24 (rowF (fun _ => 0)) RD.out IB.out LB.out OB.out (hK _ _ ?_)
            clear hK K
            simp only [List.getElem_toArray, List.getElem_cons_zero, List.getElem_cons_succ, Act.put]
            refine wpAny_done (by kernel_rfl) ?_ _
            go_wp2_with fail
            exact bodyPost_ret (results_two_rows rfl _ _ gc gd 24 24 (nvA ra) (nvA rb) (0, 0) (0, 0) _ _ rfl rfl (R4.out.row 2) (R4.out.row 3) Try.underlying24 rfl IA.out Try.underlying24 rfl IB.out) rfl ⟨rfl, R4.out.bel⟩
          · skip
            refine step_store_row (by rfl) 24 (.tmp 6) (.tmp 39) (by rfl) gc (nvA ra) (by rfl) (by rfl) 24 (rowF (fun _ => 0)) RC.out IA.out LA.out OA.out (hK _ _ ?_)
            clear hK K
            simp only [List.getElem_toArray, List.getElem_cons_zero, List.getElem_cons_succ, Act.put]
            refine wpAny_ready (rs := [1]) (by kernel_rfl) (by simp) ?_
            refine AllReady.cons rfl (fun K hK => ?_) AllReady.nil
            refine step_load_row (by rfl) 24 (.tmp 4) (by rfl) gb (by rfl) 24 (nvA rb) (0, 0) _ RB3.out Try.underlying24 rfl IB.out (hK _ _ ?_)
            clear hK K
            simp only [List.getElem_toArray, List.getElem_cons_zero, List.getElem_cons_succ, Act.put, List.setIfInBounds_toArray, List.set_cons_zero, List.set_cons_succ]
            refine wpAny_ready (rs := [3]) (by kernel_rfl) (by simp) ?_
            refine AllReady.cons rfl (fun K hK => ?_) AllReady.nil
            refine step_store_row (by rfl) 24 (.tmp 7) (.tmp 40) (by rfl) gd (nvA rb) (by rfl) (by rfl) 24 (rowF (fun _ => 0)) RD.out IB.out LB.out OB.out (hK _ _ ?_)
            clear hK K
            simp only [List.getElem_toArray, List.getElem_cons_zero, List.getElem_cons_succ, Act.put]
            refine wpAny_done (by kernel_rfl) ?_ _
            go_wp2_with fail
            exact bodyPost_ret (results_two_rows rfl _ _ gc gd 24 24 (nvA ra) (nvA rb) (0, 0) (0, 0) _ _ rfl rfl (R4.out.row 2) (R4.out.row 3) Try.underlying24 rfl IA.out Try.underlying24 rfl IB.out) rfl ⟨rfl, R4.out.bel⟩
        · skip
          refine step_load_row (by rfl) 24 (.tmp 4) (by rfl) gb (by rfl) 24 (nvA rb) (0, 0) _ RB.out Try.underlying24 rfl IB.out (hK _ _ ?_)
          clear hK K
          simp only [List.getElem_toArray, List.getElem_cons_zero, List.getElem_cons_succ, Act.put, List.setIfInBounds_toArray, List.set_cons_zero, List.set_cons_succ]
          refine wpAny_ready (rs := [0]) (by kernel_rfl) (by simp) ?_
          refine AllReady.cons rfl (fun K hK => ?_) AllReady.nil
          refine step_load_row (by rfl) 24 (.tmp 3) (by rfl) ga (by rfl) 24 (nvA ra) (0, 0) _ RA.out Try.underlying24 rfl IA.out (hK _ _ ?_)
          clear hK K
          simp only [List.getElem_toArray, List.getElem_cons_zero, Act.put, List.setIfInBounds_toArray, List.set_cons_zero, List.set_cons_succ]
          refine wpAny_ready (rs := [2]) (by kernel_rfl) (by simp) ?_
          refine AllReady.cons rfl (fun K hK => ?_) AllReady.nil
          refine step_store_row (by rfl) 24 (.tmp 6) (.tmp 39) (by rfl) gc (nvA ra) (by rfl) (by rfl) 24 (rowF (fun _ => 0)) RC.out IA.out LA.out OA.out (hK _ _ ?_)
          clear hK K
          simp only [List.getElem_toArray, List.getElem_cons_zero, List.getElem_cons_succ, Act.put]
          refine wpAny_ready (rs := [3]) (by kernel_rfl) (by simp) ?_
          refine AllReady.cons rfl (fun K hK => ?_) AllReady.nil
          refine step_store_row (by rfl) 24 (.tmp 7) (.tmp 40) (by rfl) gd (nvA rb) (by rfl) (by rfl) 24 (rowF (fun _ => 0)) RD.out IB.out LB.out OB.out (hK _ _ ?_)
          clear hK K
          simp only [List.getElem_toArray, List.getElem_cons_zero, List.getElem_cons_succ, Act.put]
          refine wpAny_done (by kernel_rfl) ?_ _
          go_wp2_with fail
          exact bodyPost_ret (results_two_rows rfl _ _ gc gd 24 24 (nvA ra) (nvA rb) (0, 0) (0, 0) _ _ rfl rfl (R4.out.row 2) (R4.out.row 3) Try.underlying24 rfl IA.out Try.underlying24 rfl IB.out) rfl ⟨rfl, R4.out.bel⟩
end Go.Proofs.Ythlmphloalbhnaa

/-
  fe.Bytes: the walk.
-/
namespace MS
open Go Go.RowKit
/-- 32 bytes, the lowest first. -/
def le32 (v : Nat) : List UInt8 := (List.range 32).map fun i => UInt8.ofNat (v / 2 ^ (8 * i) % 256)
theorem length_le32 (v : Nat) : (le32 v).length = 32 := by simp [le32]
theorem le32_inj {u v : Nat} (hu : u < 2 ^ 256) (hv : v < 2 ^ 256) (h : le32 u = le32 v) : u = v := by
  have hd : ∀ i, i < 32 → u / 2 ^ (8 * i) % 256 = v / 2 ^ (8 * i) % 256 := by
    intro i hi
    have h1 : (le32 u)[i]? = (le32 v)[i]? := by rw [h]
    simp only [le32, List.getElem?_map, List.getElem?_range hi, Option.map_some, Option.some.injEq] at h1
    have h2 := congrArg UInt8.toNat h1
    simpa using h2
  have key : ∀ k, k ≤ 32 → u % 2 ^ (8 * k) = v % 2 ^ (8 * k) := by
    intro k
    induction k with
    | zero => intro _; simp [Nat.mod_one]
    | succ k ih =>
      intro hk
      rw [Nat.mul_succ, Nat.pow_add, Nat.mod_mul, Nat.mod_mul, ih (by omega), show (2 : Nat) ^ 8 = 256 from rfl, hd k (by omega)]
  have := key 32 (Nat.le_refl _)
  rwa [Nat.mod_eq_of_lt hu, Nat.mod_eq_of_lt hv] at this
def wd (v j : Nat) : Nat := v / 2 ^ (64 * j) % 18446744073709551616
theorem wd_byte (v i : Nat) : wd v (i / 8) / 2 ^ (8 * (i % 8)) % 256 = v / 2 ^ (8 * i) % 256 := by
  unfold wd
  have h8 : i % 8 < 8 := Nat.mod_lt _ (by decide)
  have e : 8 * i = 64 * (i / 8) + 8 * (i % 8) := by omega
  rw [e, Nat.pow_add, ← Nat.div_div_eq_div_mul]
  generalize v / 2 ^ (64 * (i / 8)) = x
  have hc : i % 8 = 0 ∨ i % 8 = 1 ∨ i % 8 = 2 ∨ i % 8 = 3 ∨ i % 8 = 4 ∨ i % 8 = 5 ∨ i % 8 = 6 ∨ i % 8 = 7 := by omega
  rcases hc with h | h | h | h | h | h | h | h <;> rw [h] <;> omega
theorem N5.lst_words {x : N5} (h : x.lst) : wd x.v 0 = x.a + 2251799813685248 * (x.b % 8192) ∧ wd x.v 1 = x.b / 8192 + 274877906944 * (x.c % 67108864) ∧ wd x.v 2 = x.c / 67108864 + 33554432 * (x.d % 549755813888) ∧ wd x.v 3 = x.d / 549755813888 + 4096 * x.e := by
  obtain ⟨a, b, c, d, e⟩ := x
  obtain ⟨h1, h2, h3, h4, h5⟩ := h
  simp only at h1 h2 h3 h4 h5
  simp only [wd, N5.v]
  refine ⟨?_, ?_, ?_, ?_⟩ <;> omega
/-- A row of 32 bytes. -/
def bRow (f : Nat → Nat) : Array Value := ((List.range 32).map fun i => Value.int .u8 (f i : Nat)).toArray
theorem bRow_get (f : Nat → Nat) (j : Nat) (h : j < 32) : (bRow f)[j]? = some (.int .u8 (f j : Nat)) := by simp [bRow, h]
theorem bRow_set (f : Nat → Nat) (j v : Nat) : (bRow f).setIfInBounds j (.int .u8 (v : Nat)) = bRow (upd f j v) := by
  apply Array.ext
  · simp [bRow]
  · intro i h1 h2
    have h3 : i < 32 := by simpa [bRow] using h2
    rw [Array.getElem_setIfInBounds (by simpa [bRow] using h3)]
    by_cases e : j = i
    · subst e; simp [bRow, upd]
    · rw [if_neg e]; simp [bRow, upd, Ne.symm e]
end MS
namespace Go.Proofs.Ythlmphloalbhnaa
open Go.RowKit MS

/-- A number's bytes. -/
def feB (x : N5) : ByteArray := bs (le32 (x.v % Q'))
theorem or_add (k : Nat) (a b : Nat) (ha : a < 2 ^ k) : a ||| b * 2 ^ k = a + b * 2 ^ k := by
  rw [Nat.or_comm, ← Nat.shiftLeft_eq, ← Nat.shiftLeft_add_eq_or_of_lt ha, Nat.add_comm]

theorem or_words (k lo hi : Nat) (hlo : lo < 2 ^ k) (hs : lo + hi * 2 ^ k < 18446744073709551616) : bits .or .u64 (lo : Int) ((hi * 2 ^ k : Nat) : Int) = ((lo + hi * 2 ^ k : Nat) : Int) := by
  rw [u64_or_nat lo (hi * 2 ^ k) (by omega) (by omega), or_add k lo hi hlo]
def wdRow (v : Nat) : Array Value := #[.int .u64 (wd v 0 : Nat), .int .u64 (wd v 1 : Nat), .int .u64 (wd v 2 : Nat), .int .u64 (wd v 3 : Nat)]
theorem wdRow_get (v q : Nat) (h : q < 4) : (wdRow v)[q]? = some (.int .u64 (wd v q : Nat)) := by
  have : q = 0 ∨ q = 1 ∨ q = 2 ∨ q = 3 := by omega
  rcases this with rfl | rfl | rfl | rfl <;> rfl
def byF (v i : Nat) : Nat := v / 2 ^ (8 * i) % 256
theorem bRow_end (F G : Nat → Nat) : bRow (prog F G 32) = bRow G := by
  unfold bRow
  refine congrArg List.toArray (List.map_congr_left ?_)
  intro i hi
  rw [prog, if_pos (List.mem_range.1 hi)]
theorem conv_bRow (w : World) (g : Nat) (T : TypeId) (v : Nat) (hb : w.heap[g]? = some (.cells (bRow (byF v)) T (0, 0))) :
    (convert 54 9 (.slice (some ⟨g, 0, none⟩) 32 32)).run Try.prog w = .ok (.string (bs (le32 v))) w :=
  run_block_to_string w 54 9 5 Try.underlying54 Try.underlying5 Try.underlying9 g 32 32 T (0, 0) (le32 v) (cs := bRow (byF v)) hb (length_le32 v) (fun j hj => by
    have h32 : j < 32 := by rwa [length_le32] at hj
    rw [bRow_get _ _ h32]
    simp [le32, byF])
theorem bRow_zero : bRow (fun _ => 0) = #[.int .u8 0, .int .u8 0, .int .u8 0, .int .u8 0, .int .u8 0, .int .u8 0, .int .u8 0, .int .u8 0, .int .u8 0, .int .u8 0, .int .u8 0, .int .u8 0, .int .u8 0, .int .u8 0, .int .u8 0, .int .u8 0, .int .u8 0, .int .u8 0, .int .u8 0, .int .u8 0, .int .u8 0, .int .u8 0, .int .u8 0, .int .u8 0, .int .u8 0, .int .u8 0, .int .u8 0, .int .u8 0, .int .u8 0, .int .u8 0, .int .u8 0, .int .u8 0] := rfl
set_option maxRecDepth 100000 in
set_option maxHeartbeats 2000000 in
theorem febytes_any (x : N5) (hx : x.ok) (w : World) :
    Calls Try.prog 16 #[.agg (nvA x)] w fun e w' => e = .returned (.string (feB x)) ∧ Below w.heap.size w w' := by
  have NX := Lib.hid (fun w => least_any x hx w)
  have R0 := Lib.hid (show Rw w [(w.heap.size, nvA x, 24)] (w.alloc (.cells (nvA x) 24 (0, 0))) from (Rw.nil w).alloc (nvA x) 24)
  have IX := Lib.hid (infoV x)
  have IL := Lib.hid (infoV (least x))
  have OL := Lib.hid (one_nvA (least x))
  have LX := Lib.hid (show (nvA x).size = (nvA (least x)).size from rfl)
  have HW := Lib.hid (N5.lst_words (least_lst x))
  have HB := Lib.hid (least_lst x)
  have HR := Lib.hid (show feB x = bs (le32 (least x).v) by rw [feB, least_v hx])
  generalize nvA x = rx at *
  generalize least x = y at *
  generalize feB x = R at *
  clear hx
  go_enter Try.func16, Try.ntmps16
  go_upto_region 1 with fail
  generalize w.alloc (.cells rx 24 (0, 0)) = W at R0 ⊢
  have RA := Lib.hid (R0.out.row 0)
  go_wp2_with (with_reducible refine wpList_load_row rfl 24 (.tmp 1) rfl w.heap.size rfl 24 rx (0, 0) _ RA.out Try.underlying24 rfl IX.out ?_)
  refine (NX.out _).mono ?_
  rintro e w5 ⟨rfl, hb5⟩
  have R1 := Lib.hid (R0.out.on hb5)
  have RW1 := Lib.hid (R1.out.row 0)
  have R2 := Lib.hid (R1.out.store 0 (nvA y))
  clear hb5
  go_upto_region 2 with (with_reducible refine wpList_store_row rfl 24 (.tmp 1) (.tmp 7) rfl w.heap.size (nvA y) rfl rfl 24 rx RW1.out IL.out LX.out OL.out ?_)
  have r3 := R2.out
  simp only [List.set_cons_zero] at r3
  generalize World.setRow w5 _ (nvA y) = w6 at r3 ⊢
  generalize w.heap.size = ga at *
  obtain ⟨a, b, c, d, e⟩ := y
  obtain ⟨h1, h2, h3, h4, h5⟩ := HB.out
  obtain ⟨v0, v1, v2, v3⟩ := HW.out
  simp only at h1 h2 h3 h4 h5 v0 v1 v2 v3
  have c0 := r3.cell 0 0 (cs := nvA ⟨a, b, c, d, e⟩) (v := .int .u64 (a : Int)) rfl
  have c1 := r3.cell 0 1 (cs := nvA ⟨a, b, c, d, e⟩) (v := .int .u64 (b : Int)) rfl
  have c2 := r3.cell 0 2 (cs := nvA ⟨a, b, c, d, e⟩) (v := .int .u64 (c : Int)) rfl
  have c3 := r3.cell 0 3 (cs := nvA ⟨a, b, c, d, e⟩) (v := .int .u64 (d : Int)) rfl
  have c4 := r3.cell 0 4 (cs := nvA ⟨a, b, c, d, e⟩) (v := .int .u64 (e : Int)) rfl
  have e0 := or_words 51 a (b % 8192) (by omega) (by omega)
  have e1 := or_words 38 (b / 8192) (c % 67108864) (by omega) (by omega)
  have e2 := or_words 25 (c / 67108864) (d % 549755813888) (by omega) (by omega)
  have e3 := or_words 12 (d / 549755813888) e (by omega) (by omega)
  have f0 : IntKind.u64.wrap ((b : Int) * 2251799813685248) = ((b % 8192 * 2 ^ 51 : Nat) : Int) := by rw [IntKind.wrap_u64]; omega
  have f1 : IntKind.u64.wrap ((c : Int) * 274877906944) = ((c % 67108864 * 2 ^ 38 : Nat) : Int) := by rw [IntKind.wrap_u64]; omega
  have f2 : IntKind.u64.wrap ((d : Int) * 33554432) = ((d % 549755813888 * 2 ^ 25 : Nat) : Int) := by rw [IntKind.wrap_u64]; omega
  have f3 : (e : Int) * 4096 = ((e * 2 ^ 12 : Nat) : Int) := by omega
  have g1 : (b : Int) / 8192 = ((b / 8192 : Nat) : Int) := by omega
  have g2 : (c : Int) / 67108864 = ((c / 67108864 : Nat) : Int) := by omega
  have g3 : (d : Int) / 549755813888 = ((d / 549755813888 : Nat) : Int) := by omega
  rw [show a + b % 8192 * 2 ^ 51 = wd (N5.v ⟨a, b, c, d, e⟩) 0 by rw [v0]; omega] at e0
  rw [show b / 8192 + c % 67108864 * 2 ^ 38 = wd (N5.v ⟨a, b, c, d, e⟩) 1 by rw [v1]; omega] at e1
  rw [show c / 67108864 + d % 549755813888 * 2 ^ 25 = wd (N5.v ⟨a, b, c, d, e⟩) 2 by rw [v2]; omega] at e2
  rw [show d / 549755813888 + e * 2 ^ 12 = wd (N5.v ⟨a, b, c, d, e⟩) 3 by rw [v3]; omega] at e3
  rw [← f0] at e0
  rw [← f1, ← g1] at e1
  rw [← f2, ← g2] at e2
  rw [← f3, ← g3] at e3
  have E0 := Lib.hid e0
  have E1 := Lib.hid e1
  have E2 := Lib.hid e2
  have E3 := Lib.hid e3
  clear e0 e1 e2 e3 f0 f1 f2 f3 g1 g2 g3 v0 v1 v2 v3
  go_wp2_with fail
  rw [E0.out, E1.out, E2.out, E3.out]
  generalize N5.v ⟨a, b, c, d, e⟩ = v at *
  have r5 := (r3.alloc #[.int .u64 (wd v 0 : Nat), .int .u64 (wd v 1 : Nat), .int .u64 (wd v 2 : Nat), .int .u64 (wd v 3 : Nat)] 59).alloc (bRow (fun _ => 0)) 60
  rw [World.size_alloc, bRow_zero] at r5
  generalize (w6.alloc (.cells #[.int .u64 (wd v 0 : Nat), .int .u64 (wd v 1 : Nat), .int .u64 (wd v 2 : Nat), .int .u64 (wd v 3 : Nat)] 59 (0, 0))).alloc (.cells #[.int .u8 0, .int .u8 0, .int .u8 0, .int .u8 0, .int .u8 0, .int .u8 0, .int .u8 0, .int .u8 0, .int .u8 0, .int .u8 0, .int .u8 0, .int .u8 0, .int .u8 0, .int .u8 0, .int .u8 0, .int .u8 0, .int .u8 0, .int .u8 0, .int .u8 0, .int .u8 0, .int .u8 0, .int .u8 0, .int .u8 0, .int .u8 0, .int .u8 0, .int .u8 0, .int .u8 0, .int .u8 0, .int .u8 0, .int .u8 0, .int .u8 0, .int .u8 0] 60 (0, 0)) = w7 at r5 ⊢
  rw [← bRow_zero] at r5
  generalize w6.heap.size + 1 = go at *
  generalize w6.heap.size = gw at *
  have R5 := Lib.hid (show Rw w [(gw, wdRow v, 59), (go, bRow (fun _ => 0), 60)] w7 from r5.drop)
  clear r3 r5 c0 c1 c2 c3 c4 h1 h2 h3 h4 h5 R0 R1 R2 RA RW1 NX IX IL OL LX HW HB E0 E1 E2 E3
  go_loopw [36] (fun c wr => ∃ j : Nat, j ≤ 32 ∧ c = .int .i64 j ∧ Rw w [(gw, wdRow v, 59), (go, bRow (prog (fun _ => 0) (byF v) j), 60)] wr) (fun c _ => 32 - (intOf c).toNat)
  case atStart => exact ⟨0, by omega, rfl, by rw [prog_zero]; exact R5.out⟩
  case round =>
    obtain ⟨j, hj, rfl, hr⟩ := hrel
    have R6 := Lib.hid hr
    clear hr R5
    by_cases hlt : j < 32
    · have j1 : (j : Int) < 32 := by omega
      have j0 : (0 : Int) ≤ j := by omega
      have HLT := Lib.hid hlt
      obtain ⟨q, hq⟩ : ∃ q, j / 8 = q := ⟨_, rfl⟩
      obtain ⟨r, hr⟩ : ∃ r, j % 8 = r := ⟨_, rfl⟩
      have q4 : q < 4 := by omega
      have r8 : r = 0 ∨ r = 1 ∨ r = 2 ∨ r = 3 ∨ r = 4 ∨ r = 5 ∨ r = 6 ∨ r = 7 := by omega
      have qj : (j : Int) / 8 = (q : Int) := by omega
      have rj : (j : Int) % 8 = (r : Int) := by omega
      have qn : (0 : Int) ≤ q := by omega
      have qi : (q : Int) < 4 := by omega
      have cw := R6.out.cell 0 q (wdRow_get v q q4)
      have co := R6.out.cell 1 j (bRow_get _ j hlt)
      have fo := R6.out.free 1 j
      have put := R6.out.put 1 j (.int .u8 (byF v j : Nat))
      rw [bRow_set, prog_set] at put
      have PUT := Lib.hid put
      have wb := wd_byte v j
      rw [hq, hr, show v / 2 ^ (8 * j) % 256 = byF v j from rfl] at wb
      generalize wd v q = W0 at cw wb
      generalize byF v j = B0 at PUT wb put
      clear put hlt hj hq hr q4
      rcases r8 with rfl | rfl | rfl | rfl | rfl | rfl | rfl | rfl
      · have rk : (j : Int) % 8 = 0 := rj
        have vb : (W0 : Int) % 256 = (B0 : Int) := by rw [show (2 : Nat) ^ (8 * 0) = 1 from rfl] at wb; omega
        clear rj wb
        go_wp2_with fail
        go_roundw
        case rel => exact ⟨j + 1, HLT.out, by go_num, PUT.out⟩
        case measure => simp [intOf]; omega
      · have rk : (j : Int) % 8 = 1 := rj
        have vb : (W0 : Int) / 256 % 256 = (B0 : Int) := by rw [show (2 : Nat) ^ (8 * 1) = 256 from rfl] at wb; omega
        clear rj wb
        go_wp2_with fail
        go_roundw
        case rel => exact ⟨j + 1, HLT.out, by go_num, PUT.out⟩
        case measure => simp [intOf]; omega
      · have rk : (j : Int) % 8 = 2 := rj
        have vb : (W0 : Int) / 65536 % 256 = (B0 : Int) := by rw [show (2 : Nat) ^ (8 * 2) = 65536 from rfl] at wb; omega
        clear rj wb
        go_wp2_with fail
        go_roundw
        case rel => exact ⟨j + 1, HLT.out, by go_num, PUT.out⟩
        case measure => simp [intOf]; omega
      · have rk : (j : Int) % 8 = 3 := rj
        have vb : (W0 : Int) / 16777216 % 256 = (B0 : Int) := by rw [show (2 : Nat) ^ (8 * 3) = 16777216 from rfl] at wb; omega
        clear rj wb
        go_wp2_with fail
        go_roundw
        case rel => exact ⟨j + 1, HLT.out, by go_num, PUT.out⟩
        case measure => simp [intOf]; omega
      · have rk : (j : Int) % 8 = 4 := rj
        have vb : (W0 : Int) / 4294967296 % 256 = (B0 : Int) := by rw [show (2 : Nat) ^ (8 * 4) = 4294967296 from rfl] at wb; omega
        clear rj wb
        go_wp2_with fail
        go_roundw
        case rel => exact ⟨j + 1, HLT.out, by go_num, PUT.out⟩
        case measure => simp [intOf]; omega
      · have rk : (j : Int) % 8 = 5 := rj
        have vb : (W0 : Int) / 1099511627776 % 256 = (B0 : Int) := by rw [show (2 : Nat) ^ (8 * 5) = 1099511627776 from rfl] at wb; omega
        clear rj wb
        go_wp2_with fail
        go_roundw
        case rel => exact ⟨j + 1, HLT.out, by go_num, PUT.out⟩
        case measure => simp [intOf]; omega
      · have rk : (j : Int) % 8 = 6 := rj
        have vb : (W0 : Int) / 281474976710656 % 256 = (B0 : Int) := by rw [show (2 : Nat) ^ (8 * 6) = 281474976710656 from rfl] at wb; omega
        clear rj wb
        go_wp2_with fail
        go_roundw
        case rel => exact ⟨j + 1, HLT.out, by go_num, PUT.out⟩
        case measure => simp [intOf]; omega
      · have rk : (j : Int) % 8 = 7 := rj
        have vb : (W0 : Int) / 72057594037927936 % 256 = (B0 : Int) := by rw [show (2 : Nat) ^ (8 * 7) = 72057594037927936 from rfl] at wb; omega
        clear rj wb
        go_wp2_with fail
        go_roundw
        case rel => exact ⟨j + 1, HLT.out, by go_num, PUT.out⟩
        case measure => simp [intOf]; omega
    · have j1 : ¬ ((j : Int) < 32) := by omega
      have hj32 : j = 32 := by omega
      have r7 := R6.out
      rw [hj32, bRow_end] at r7
      have hcv := conv_bRow wr go 60 v (r7.row 1)
      rw [← HR.out] at hcv
      have HBB := Lib.hid r7.bel
      clear r7 hj32 hlt hj R6
      go_wp2_with fail
      go_ret
      exact ⟨rfl, HBB.out⟩
end Go.Proofs.Ythlmphloalbhnaa

/-
  The laws of sums and products modulo the prime; the fixed answer of layer 3.
-/
namespace MS
def em (x y : N5) : Prop := x.v % Q' = y.v % Q'
theorem em_add {x x' y y' : N5} (h : em x x') (k : em y y') : em (add x y) (add x' y') := by
  unfold em at *; rw [add_mod, add_mod, Nat.add_mod, h, k, ← Nat.add_mod]
theorem em_mul {x x' y y' : N5} (h : em x x') (k : em y y') : em (mul x y) (mul x' y') := by
  unfold em at *; rw [mul_mod, mul_mod, Nat.mul_mod, h, k, ← Nat.mul_mod]
theorem em_add_comm (a b : N5) : em (add a b) (add b a) := by unfold em; rw [add_mod, add_mod, Nat.add_comm]
theorem em_mul_comm (a b : N5) : em (mul a b) (mul b a) := by unfold em; rw [mul_mod, mul_mod, Nat.mul_comm]
theorem em_sub_add (a : N5) {b : N5} (hb : b.ok) : em (add (sub a b) b) a := by unfold em; rw [add_mod]; exact sub_mod hb
theorem em_mul_assoc (a b c : N5) : em (mul a (mul b c)) (mul (mul a b) c) := by
  unfold em
  rw [mul_mod, mul_mod, Nat.mul_mod, mul_mod b c, ← Nat.mul_mod, Nat.mul_mod (mul a b).v, mul_mod a b, ← Nat.mul_mod, Nat.mul_assoc]
theorem em_distrib (a b c : N5) : em (mul a (add b c)) (add (mul a b) (mul a c)) := by
  unfold em
  rw [mul_mod, add_mod, Nat.mul_mod, add_mod b c, ← Nat.mul_mod, Nat.add_mod, mul_mod a b, mul_mod a c, ← Nat.add_mod, Nat.mul_add]
/-- What added to b is a is the difference. -/
theorem em_cancel {x y b : N5} (h : (x.v + b.v) % Q' = (y.v + b.v) % Q') : em x y := by
  unfold em
  have h1 := Nat.div_add_mod x.v Q'
  have h2 := Nat.div_add_mod y.v Q'
  have h3 := Nat.mod_lt x.v (show 0 < Q' by decide)
  have h4 := Nat.mod_lt y.v (show 0 < Q' by decide)
  rw [Nat.add_mod, Nat.add_mod y.v] at h
  have h5 := Nat.mod_lt b.v (show 0 < Q' by decide)
  generalize x.v % Q' = p at *
  generalize y.v % Q' = q at *
  generalize b.v % Q' = r at *
  clear h1 h2
  unfold Q' at *
  omega
def n0 : N5 := ⟨0, 0, 0, 0, 0⟩
theorem n0_v : n0.v = 0 := rfl
theorem n0_ok : n0.ok := by unfold n0 N5.ok; simp
theorem em_sub_self {a : N5} (ha : a.ok) : em (sub a a) n0 := em_cancel (b := a) (by rw [sub_mod ha, n0_v, Nat.zero_add])
theorem em_sub_sub {a : N5} (ha : a.ok) (h1 : (sub n0 a).ok) : em (sub n0 (sub n0 a)) a := by
  refine em_cancel (b := sub n0 a) ?_
  rw [sub_mod h1, Nat.add_comm a.v, sub_mod ha]
theorem em_small (a : N5) (n m : Nat) : em (add (mul a ⟨n, 0, 0, 0, 0⟩) (mul a ⟨m, 0, 0, 0, 0⟩)) (mul a ⟨n + m, 0, 0, 0, 0⟩) := by
  unfold em
  rw [add_mod, mul_mod, Nat.add_mod, mul_mod, mul_mod, ← Nat.add_mod]
  congr 1
  simp only [N5.v]
  rw [← Nat.mul_add]
  simp only [Nat.mul_zero, Nat.add_zero]
theorem em_twice (a : N5) : em (mul a ⟨2, 0, 0, 0, 0⟩) (add a a) := by
  unfold em
  rw [add_mod, mul_mod]
  congr 1
  simp only [N5.v]
  omega
end MS
namespace Go.Proofs.Ythlmphloalbhnaa
open Go.RowKit MS
theorem ls_getQ (s : ByteArray) (j : Nat) (h : j < s.size) : s[j]'h = (ls s).getD j 0 := by
  have hl : j < s.data.toList.length := by simpa using h
  unfold ls
  rw [List.getD_eq_getElem?_getD, List.getElem?_eq_getElem hl]
  rfl
theorem feB_em {x y : N5} (h : em x y) : feB x = feB y := by unfold feB; rw [h]
theorem size_feB (x : N5) : (feB x).size = 32 := by rw [feB, size_bs, length_le32]
theorem add_ok {x y : N5} (hx : x.ok) (hy : y.ok) : (add x y).ok := nar_ok (add_nar hx hy)
theorem sub_ok {x y : N5} (hx : x.ok) : (sub x y).ok := nar_ok (sub_nar hx)
theorem mul_ok {x y : N5} (hx : x.ok) (hy : y.ok) : (mul x y).ok := nar_ok (mul_nar hx hy)
theorem quiet_load_row {P : Program} {C : World → Prop} {K : Act → Prop} {a : Act} {o : Oper} (ty : TypeId) (x : Operand) (ho : o.op = .load ty x)
    (g : Nat) (hx : a.eval x = .pointer (some ⟨g, 0, none⟩)) (t : TypeId) (cs : Array Value) (fr : Nat × Nat) (d : TypeDesc) (hC : ∀ w, C w → w.heap[g]? = some (.cells cs t fr))
    (hu : P.underlying ty = some d) (hd : (match d with | .struct _ | .array _ _ => true | _ => false) = true) (hi : (P.info? ty).map (·.size) = some cs.size)
    (hK : K (a.put o.dst (.agg cs))) : Oper.quiet P o a C K := by
  refine ⟨.agg cs, fun w hw => ?_, hK⟩
  unfold Oper.quietAt execOp
  simp only [ho, hx, Instr.loadAt, Instr.sureAddr, Sem.run_bind, Sem.run_pure, Result.andThen_ok, run_loadVar_row w g t ty cs fr d (hC w hw) hu hd hi]
  exact ⟨rfl, rfl⟩

theorem run_same_num (w : World) (d : Nat) (x : N5) : (Op.equalIn (d + 2) 24 (.agg (nvA x)) (.agg (nvA x))).run Try.prog w = .ok true w := by
  have hsz : ∀ w, (sizeOf 22).run Try.prog w = .ok 1 w := fun w => by kernel_rfl
  rw [Op.equalIn]
  simp only [Sem.run_bind, run_underlying Try.underlying24, Result.andThen_ok, hsz, Std.Legacy.Range.forIn_eq_forIn_range', Std.Legacy.Range.size, Nat.sub_zero, Nat.add_sub_cancel, Nat.div_one]
  have hl : ∀ i ∈ List.range' 0 5 1, i < 5 := fun i hi => by simpa using (List.mem_range'_1.1 hi).2
  generalize List.range' 0 5 1 = l at hl ⊢
  induction l with
  | nil => simp
  | cons i l ih =>
    have hi : i < 5 := hl i (by simp)
    have hg : (nvA x)[i]? = some (.int .u64 (getN x i : Nat)) := rowF_get (getN x) i hi
    have px : (part 22 (nvA x) (i * 1)).run Try.prog w = .ok (.int .u64 (getN x i : Nat)) w := by
      simp [part, isAgg, run_underlying Try.underlying22, hg]
    have pe : (Op.equalIn (d + 1) 22 (.int .u64 (getN x i : Nat)) (.int .u64 (getN x i : Nat))).run Try.prog w = .ok true w := by
      rw [run_equalIn_int w d 22 .u64 .u64 _ _ Try.underlying22]
      simp
    simp only [List.forIn_cons, Sem.run_bind, px, pe, Result.andThen_ok, Bool.not_true, Bool.false_eq_true, if_false, Sem.run_pure]
    exact ih fun j hj => hl j (by simp [hj])
theorem run_eql_num (x : N5) (w : World) : (binOp .eql 24 (.agg (nvA x)) (.agg (nvA x))).run Try.prog w = .ok (.bool true) w := by
  rw [run_eql_struct, show (10000 : Nat) = 9998 + 2 from rfl, run_same_num w 9998 x]
  rfl

def dA1 : ByteArray := feB (sub n0 ⟨1, 0, 0, 0, 0⟩)
def dA2 : ByteArray := feB (mul ⟨3, 0, 0, 0, 0⟩ ⟨5, 0, 0, 0, 0⟩)
theorem dA1_0 : (ls dA1).getD 0 0 = 236 := by decide +kernel
theorem dA1_1 : (ls dA1).getD 1 0 = 255 := by decide +kernel
theorem dA1_31 : (ls dA1).getD 31 0 = 127 := by decide +kernel
theorem dA2_0 : (ls dA2).getD 0 0 = 15 := by decide +kernel

set_option maxHeartbeats 1000000 in
theorem awake03_any (w : World) : Calls Try.prog 22 #[] w fun e w' => e = .returned (.bool true) ∧ Below w.heap.size w w' := by
  have S := Lib.hid (fun w => fesub_any n0 ⟨1, 0, 0, 0, 0⟩ n0_ok (by unfold N5.ok; simp) w)
  have B := Lib.hid (fun w => febytes_any (sub n0 ⟨1, 0, 0, 0, 0⟩) (sub_ok n0_ok) w)
  have M := Lib.hid (fun w => femul_any ⟨3, 0, 0, 0, 0⟩ ⟨5, 0, 0, 0, 0⟩ (by unfold N5.ok; simp) (by unfold N5.ok; simp) w)
  have C := Lib.hid (fun w => febytes_any (mul ⟨3, 0, 0, 0, 0⟩ ⟨5, 0, 0, 0, 0⟩) (mul_ok (by unfold N5.ok; simp) (by unfold N5.ok; simp)) w)
  rw [show feB (sub n0 ⟨1, 0, 0, 0, 0⟩) = dA1 from rfl] at B
  rw [show feB (mul ⟨3, 0, 0, 0, 0⟩ ⟨5, 0, 0, 0, 0⟩) = dA2 from rfl] at C
  rw [show nvA n0 = #[.int .u64 0, .int .u64 0, .int .u64 0, .int .u64 0, .int .u64 0] from rfl, show nvA ⟨1, 0, 0, 0, 0⟩ = #[.int .u64 1, .int .u64 0, .int .u64 0, .int .u64 0, .int .u64 0] from rfl] at S
  rw [show nvA ⟨3, 0, 0, 0, 0⟩ = #[.int .u64 3, .int .u64 0, .int .u64 0, .int .u64 0, .int .u64 0] from rfl, show nvA ⟨5, 0, 0, 0, 0⟩ = #[.int .u64 5, .int .u64 0, .int .u64 0, .int .u64 0, .int .u64 0] from rfl] at M
  have s1 : dA1.size = 32 := size_feB _
  have s2 : dA2.size = 32 := size_feB _
  have b0 := (ls_getQ dA1 0 (by rw [s1]; decide)).trans dA1_0
  have b1 := (ls_getQ dA1 1 (by rw [s1]; decide)).trans dA1_1
  have b2 := (ls_getQ dA1 31 (by rw [s1]; decide)).trans dA1_31
  have b3 := (ls_getQ dA2 0 (by rw [s2]; decide)).trans dA2_0
  generalize dA1 = D1 at *
  generalize dA2 = D2 at *
  generalize nvA (sub n0 ⟨1, 0, 0, 0, 0⟩) = r1 at *
  generalize nvA (mul ⟨3, 0, 0, 0, 0⟩ ⟨5, 0, 0, 0, 0⟩) = r2 at *
  have z1 : ((D1.size : Int) == 32) = true := by simp; omega
  have i0 : (0 : Int) < D1.size := by omega
  have i1 : (1 : Int) < D1.size := by omega
  have i2 : (31 : Int) < D1.size := by omega
  have i3 : (0 : Int) < D2.size := by omega
  go_enter Try.func22, Try.ntmps22
  go_wp2_with fail
  refine (S.out _).mono ?_
  rintro e w1 ⟨rfl, hb⟩
  have B1 := Lib.hid hb
  clear hb
  go_wp2_with fail
  refine (B.out _).mono ?_
  rintro e w2 ⟨rfl, hb⟩
  have B2 := Lib.hid (B1.out.trans (hb.mono B1.out.size))
  clear hb
  go_wp2_with fail
  refine (M.out _).mono ?_
  rintro e w3 ⟨rfl, hb⟩
  have B3 := Lib.hid (B2.out.trans (hb.mono B2.out.size))
  clear hb
  go_wp2_with fail
  refine (C.out _).mono ?_
  rintro e w4 ⟨rfl, hb⟩
  have B4 := Lib.hid (B3.out.trans (hb.mono B3.out.size))
  clear hb
  go_wp2_with fail
  go_ret
  exact ⟨rfl, B4.out⟩
end Go.Proofs.Ythlmphloalbhnaa

/-
  Words of 32 bits in a walk: the walk's integers are kept as those of bit vectors, under a name that simp does not open.
-/
namespace MS
open Go Go.RowKit
abbrev W32 := BitVec 32
/-- A word's number. -/
def wv (x : W32) : Int := (x.toNat : Int)
theorem wv_nonneg (x : W32) : 0 ≤ wv x := by unfold wv; omega
theorem wv_lt (x : W32) : wv x < 4294967296 := by unfold wv; have := x.isLt; omega
theorem wv_inj {x y : W32} (h : wv x = wv y) : x = y := by
  unfold wv at h; exact BitVec.eq_of_toNat_eq (by omega)
theorem wv_beq (x y : W32) : (wv x == wv y) = (x == y) := by
  rw [Bool.eq_iff_iff, beq_iff_eq, beq_iff_eq]; exact ⟨wv_inj, fun h => by rw [h]⟩
/-- Any number that fits is a word's. -/
theorem wv_of (n : Int) (h0 : 0 ≤ n) (h1 : n < 4294967296) : ∃ x : W32, n = wv x :=
  ⟨BitVec.ofNat 32 n.toNat, by unfold wv; rw [BitVec.toNat_ofNat]; omega⟩
theorem w_add (x y : W32) : (wv x + wv y) % 4294967296 = wv (x + y) := by
  unfold wv; rw [BitVec.toNat_add]; omega
theorem w_xor (x y : W32) : bits .xor .u32 (wv x) (wv y) = wv (x ^^^ y) := by
  unfold wv; rw [u32_xor_nat _ _ x.isLt y.isLt, BitVec.toNat_xor]
theorem w_or (x y : W32) : bits .or .u32 (wv x) (wv y) = wv (x ||| y) := by
  unfold wv; rw [u32_or_nat _ _ x.isLt y.isLt, BitVec.toNat_or]
theorem w_and (x y : W32) : bits .and .u32 (wv x) (wv y) = wv (x &&& y) := by
  unfold wv; rw [u32_and_nat _ _ x.isLt y.isLt, BitVec.toNat_and]
/-- A turn to the left by n places, as the walk writes it. -/
theorem w_rot (x : W32) (n m : Nat) (h : n < 32) (hm : n + m = 32) (a b : Int) (ha : a = ((x.toNat * 2 ^ n % 2 ^ 32 : Nat) : Int)) (hb : b = ((x.toNat / 2 ^ m : Nat) : Int)) :
    bits .or .u32 a b = wv (x.rotateLeft n) := by
  subst ha; subst hb
  have h1 : x.toNat * 2 ^ n % 2 ^ 32 < 4294967296 := Nat.mod_lt _ (by decide)
  have h2 : x.toNat / 2 ^ m < 4294967296 := Nat.lt_of_le_of_lt (Nat.div_le_self _ _) x.isLt
  unfold wv
  rw [u32_or_nat _ _ h1 h2, BitVec.rotateLeft_def, Nat.mod_eq_of_lt h, BitVec.toNat_or, BitVec.toNat_shiftLeft, BitVec.toNat_ushiftRight, Nat.shiftLeft_eq, Nat.shiftRight_eq_div_pow, show 32 - n = m by omega]
theorem w_sub (x y : W32) : (wv x - wv y) % 4294967296 = wv (x - y) := by
  unfold wv; rw [BitVec.toNat_sub]; have := x.isLt; have := y.isLt; omega
/-- A turn to the right, as it is written out. -/
def rotr (x : W32) (n m : Nat) : W32 := BitVec.ofNat 32 (x.toNat / 2 ^ n + x.toNat * 2 ^ m % 2 ^ 32)
theorem rotr_lt (x : Nat) (n m : Nat) (hm : n + m = 32) (hx : x < 2 ^ 32) : x / 2 ^ n + x * 2 ^ m % 2 ^ 32 < 2 ^ 32 ∧ x / 2 ^ n < 2 ^ m ∧ (x * 2 ^ m % 2 ^ 32) % 2 ^ m = 0 := by
  have h1 : x / 2 ^ n < 2 ^ m := by
    rw [Nat.div_lt_iff_lt_mul (Nat.two_pow_pos n), ← Nat.pow_add, Nat.add_comm m n, hm]; exact hx
  have h2 : (x * 2 ^ m % 2 ^ 32) % 2 ^ m = 0 := by
    rw [Nat.mod_mod_of_dvd _ (Nat.pow_dvd_pow 2 (by omega)), Nat.mul_mod_left]
  have h3 : x * 2 ^ m % 2 ^ 32 < 2 ^ 32 := Nat.mod_lt _ (by decide)
  refine ⟨?_, h1, h2⟩
  have h4 : x * 2 ^ m % 2 ^ 32 = 2 ^ m * (x * 2 ^ m % 2 ^ 32 / 2 ^ m) := by
    have := Nat.div_add_mod (x * 2 ^ m % 2 ^ 32) (2 ^ m); omega
  have h5 : x * 2 ^ m % 2 ^ 32 / 2 ^ m < 2 ^ n := by
    rw [Nat.div_lt_iff_lt_mul (Nat.two_pow_pos m), ← Nat.pow_add, hm]; exact h3
  have h6 : 2 ^ m * (x * 2 ^ m % 2 ^ 32 / 2 ^ m) + 2 ^ m ≤ 2 ^ 32 := by
    rw [← Nat.mul_succ]
    calc 2 ^ m * (x * 2 ^ m % 2 ^ 32 / 2 ^ m).succ ≤ 2 ^ m * 2 ^ n := Nat.mul_le_mul_left _ h5
      _ = 2 ^ 32 := by rw [← Nat.pow_add, Nat.add_comm, hm]
  omega
theorem w_rotr (x : W32) (n m : Nat) (hm : n + m = 32) (a b : Int) (ha : a = ((x.toNat / 2 ^ n : Nat) : Int)) (hb : b = ((x.toNat * 2 ^ m % 2 ^ 32 : Nat) : Int)) :
    bits .or .u32 a b = wv (rotr x n m) := by
  subst ha; subst hb
  obtain ⟨h0, h1, h2⟩ := rotr_lt x.toNat n m hm x.isLt
  have h3 : x.toNat * 2 ^ m % 2 ^ 32 < 4294967296 := Nat.mod_lt _ (by decide)
  have h4 : x.toNat / 2 ^ n < 4294967296 := Nat.lt_of_le_of_lt (Nat.div_le_self _ _) x.isLt
  rw [u32_or_nat _ _ h4 h3, Nat.or_comm, nat_join m _ _ h2 h1, Nat.add_comm]
  unfold wv rotr
  rw [BitVec.toNat_ofNat, Nat.mod_eq_of_lt h0]
theorem w_r7 (x : W32) : bits .or .u32 (wv x / 128) (wv x * 33554432 % 4294967296) = wv (rotr x 7 25) := w_rotr x 7 25 (by decide) _ _ (by unfold wv; omega) (by unfold wv; omega)
theorem w_r8 (x : W32) : bits .or .u32 (wv x / 256) (wv x * 16777216 % 4294967296) = wv (rotr x 8 24) := w_rotr x 8 24 (by decide) _ _ (by unfold wv; omega) (by unfold wv; omega)
theorem w_r12 (x : W32) : bits .or .u32 (wv x / 4096) (wv x * 1048576 % 4294967296) = wv (rotr x 12 20) := w_rotr x 12 20 (by decide) _ _ (by unfold wv; omega) (by unfold wv; omega)
theorem w_r16 (x : W32) : bits .or .u32 (wv x / 65536) (wv x * 65536 % 4294967296) = wv (rotr x 16 16) := w_rotr x 16 16 (by decide) _ _ (by unfold wv; omega) (by unfold wv; omega)
end MS

/-
  In the midst of a region that draws its order: a stretch [k, n) of operations that are quiet in a class of worlds, in whose last one all the others end and for which all that is left waits: walked once, in the order of the text.
-/
namespace MS
open Go Go.RowKit
section
variable {P : Program} {ops : Array Oper} {md : Region.Mode} {C : World → Prop}

structure MidInv (md : Region.Mode) (ops : Array Oper) (base : Array Bool) (k n : Nat) (listed : Array Bool) : Prop where
  closed : ∀ j oj, ops[j]? = some oj → listed.getD j false = true → ∀ e ∈ oj.after, Region.binds md e = true → listed.getD e.on false = true
  rest : ∀ t, ¬ (k ≤ t ∧ t < n) → listed.getD t true = base.getD t true

theorem MidInv.set {base : Array Bool} {k n i : Nat} {listed : Array Bool} (inv : MidInv md ops base k n listed) (hi : i ∈ Region.ready md ops listed) (hin : k ≤ i ∧ i < n) : MidInv md ops base k n (listed.setIfInBounds i true) := by
  obtain ⟨_, oi, hoi, hall⟩ := mem_ready.1 hi
  refine ⟨fun j oj hj hl e he hb => ?_, fun t ht => by rw [getD_set_ne true (by intro e; subst e; exact ht hin)]; exact inv.rest t ht⟩
  by_cases hij : i = j
  · subst hij
    have : oj = oi := Option.some.inj (hj.symm.trans hoi)
    subst this
    exact getD_set_true (hall e he hb)
  · rw [getD_set_ne false hij] at hl
    exact getD_set_true (inv.closed j oj hj hl e he hb)

def midB (md : Region.Mode) (ops : Array Oper) (base : Array Bool) (k n : Nat) : Bool :=
  decide (k < n) && decide (n ≤ ops.size) &&
  ((List.range ops.size).all fun t => (decide (k ≤ t) && decide (t < n)) || base.getD t true || ((List.range ops.size).any fun j => !(decide (k ≤ j) && decide (j < n)) && !base.getD j true && Region.waitsFor md ops t j) ||
    ((List.range n).all fun i => decide (i < k) || ((List.range n).any fun j => decide (i < j) && Region.waitsFor md ops j i) || Region.waitsFor md ops t i)) &&
  decide (0 < n) &&
  ((List.range ops.size).all fun j => !base.getD j false || match ops[j]? with | some o => o.after.all fun e => !Region.binds md e || base.getD e.on false | none => true)

theorem mid_waits {base : Array Bool} {k n : Nat} {listed : Array Bool} (hB : midB md ops base k n = true) (inv : MidInv md ops base k n listed) {i t : Nat} (hi : k ≤ i ∧ i < n) (hun : listed.getD i true = false)
    (ht : t ∈ Region.ready md ops listed) : k ≤ t ∧ t < n := by
  simp only [midB, Bool.and_eq_true, decide_eq_true_eq, List.all_eq_true, List.mem_range, Bool.or_eq_true, List.any_eq_true] at hB
  obtain ⟨⟨⟨⟨hkn, hn⟩, hT⟩, _⟩, _⟩ := hB
  obtain ⟨htun, ot, hot, hall⟩ := mem_ready.1 ht
  have htlt : t < ops.size := (Array.getElem?_eq_some_iff.1 hot).1
  refine Classical.byContradiction fun hno => ?_
  have dep : ∀ j, Region.waitsFor md ops t j = true → listed.getD j false = true := by
    intro j hw
    obtain ⟨ot', hot', e, he, hb, heq⟩ := Region.waitsFor_spec hw
    have : ot' = ot := Option.some.inj (hot'.symm.trans hot)
    subst this
    rw [← heq]
    exact hall e he hb
  have hS : ∀ x, x < n → (x < k ∨ ∃ j, j < n ∧ x < j ∧ Region.waitsFor md ops j x = true) ∨ Region.waitsFor md ops t x = true := by
    rcases hT t htlt with ((h | h) | ⟨j, _, ⟨h1, h2⟩, h3⟩) | h
    · exact absurd h hno
    · rw [inv.rest t hno, h] at htun; cases htun
    · have h4 := dep j h3
      have h5 : ¬ (k ≤ j ∧ j < n) := by
        intro hc
        simp [hc.1, hc.2] at h1
      have h6 := inv.rest j h5
      have h7 : base.getD j true = false := by simpa using h2
      rw [h7] at h6
      rw [getD_both h6] at h4
      cases h4
    · exact h
  have key : ∀ d j, n - j = d → k ≤ j → j < n → listed.getD j false = true := by
    intro d
    induction d using Nat.strongRecOn with
    | _ d ih =>
      intro j hd hj hjn
      rcases hS j hjn with (h | ⟨j', hj', hlt, hw'⟩) | h
      · omega
      · obtain ⟨oj, hoj, e, he, hb, heq⟩ := Region.waitsFor_spec hw'
        have := ih (n - j') (by omega) j' rfl (by omega) hj'
        rw [← heq]
        exact inv.closed j' oj hoj this e he hb
      · exact dep j h
  have := key _ i rfl hi.1 hi.2
  rw [getD_both hun] at this
  cases this

def wpAnyLM (P : Program) (md : Region.Mode) (ops : Array Oper) (C : World → Prop) (k n : Nat) (L : Array Bool → Act → Prop) : Nat → Array Bool → Act → Prop
  | 0, listed, a => L listed a
  | f + 1, listed, a =>
    Region.ready md ops listed ≠ [] ∧ ∀ i ∈ Region.ready md ops listed, (k ≤ i ∧ i < n) ∧ qOp P ops C i (wpAnyLM P md ops C k n L f (listed.setIfInBounds i true)) a

theorem wpAny_of_mid {k n g : Nat} {L : Array Bool → Act → Prop} {Q' : Exit → Act → World → Prop} (hL : ∀ listed a w, C w → L listed a → wpAny P md ops Q' g listed a w) :
    ∀ (f : Nat) (listed : Array Bool) (a : Act) (w : World), C w → wpAnyLM P md ops C k n L f listed a → wpAny P md ops Q' (f + g) listed a w
  | 0, listed, a, w, hw, h => by rw [Nat.zero_add]; exact hL _ _ _ hw h
  | f + 1, listed, a, w, hw, h => by
    rw [show f + 1 + g = (f + g) + 1 by omega]
    exact ⟨fun h0 => absurd h0 h.1, fun i hi => wpOp_of_qOp hw (fun a' w' hw' h' => wpAny_of_mid hL f _ a' w' hw' h') (h.2 i hi).2⟩

theorem wpAnyLM_first {base : Array Bool} {k n i : Nat} {oi : Oper} {v : Value} {L : Array Bool → Act → Prop} (hi : ops[i]? = some oi) (hsel : ∀ (j : Nat) (o : Oper) cs b, ops[j]? = some o → o.op ≠ .select cs b)
    (hB : midB md ops base k n = true) (hin : k ≤ i ∧ i < n)
    (hdone : ∀ listed a, L listed a → ∀ j ∈ Region.ready md ops listed, ¬ (k ≤ j ∧ j < n)) :
    ∀ (f : Nat) (listed : Array Bool) (a : Act), MidInv md ops base k n listed →
      (∀ j oj, ops[j]? = some oj → j ≠ i → listed.getD j true = false → (∀ e ∈ oj.after, Region.binds md e = true → e.on ≠ i) → oi.apart ops oj = true) →
      i ∈ Region.ready md ops listed → YieldsIn P ops C oi v a →
      wpAnyLM P md ops C k n L f (listed.setIfInBounds i true) (a.put oi.dst v) → wpAnyLM P md ops C k n L (f + 1) listed a := by
  intro f
  induction f with
  | zero =>
    intro listed a inv _ hr hy H
    have hun := (mem_ready.1 hr).1
    refine ⟨fun h => (by rw [h] at hr; cases hr), fun j hj => ?_⟩
    have hjn := mid_waits hB inv hin hun hj
    refine ⟨hjn, ?_⟩
    by_cases hji : j = i
    · subst hji; exact hy.qOp hi H
    · exact absurd hjn (hdone _ _ H j (ready_mono hj hji))
  | succ f ih =>
    intro listed a inv hfree hr hy H
    have hun := (mem_ready.1 hr).1
    refine ⟨fun h => (by rw [h] at hr; cases hr), fun j hj => ?_⟩
    have hjn := mid_waits hB inv hin hun hj
    refine ⟨hjn, ?_⟩
    by_cases hji : j = i
    · subst hji; exact hy.qOp hi H
    · have h1 := (H.2 j (ready_mono hj hji)).2
      obtain ⟨hjun, oj, hoj, hall⟩ := mem_ready.1 hj
      have hnot : ∀ e ∈ oj.after, Region.binds md e = true → e.on ≠ i := fun e he hb heq => by
        have h1 := hall e he hb
        rw [heq, getD_both hun] at h1
        cases h1
      have h2 := qOp_put hoj (hfree j oj hoj hji hjun hnot) (fun cs b => hsel i oi cs b hi) (fun cs b => hsel j oj cs b hoj) hy h1
      have hfree' : ∀ k ok, ops[k]? = some ok → k ≠ i → (listed.setIfInBounds j true).getD k true = false →
          (∀ e ∈ ok.after, Region.binds md e = true → e.on ≠ i) → oi.apart ops ok = true := fun k ok hk hki hun hno => by
        refine hfree k ok hk hki ?_ hno
        by_cases hjk : j = k
        · subst hjk; exact hjun
        · rw [getD_set_ne true hjk] at hun; exact hun
      refine qOp_mono (fun a' h3 => ih (listed.setIfInBounds j true) a' (inv.set hj hjn) hfree' (ready_mono hr (Ne.symm hji)) h3.1 ?_) h2
      rw [Array.setIfInBounds_comm _ _ hji]
      exact h3.2

def midLex (md : Region.Mode) (ops : Array Oper) (final : Array Bool) : Nat → Nat → Array Bool → Bool
  | 0, _, listed => listed == final
  | f + 1, k, listed => (Region.ready md ops listed).contains k && Region.free md ops listed k && midLex md ops final f (k + 1) (listed.setIfInBounds k true)

theorem wpAnyLM_lex {base final : Array Bool} {k0 n : Nat} {Lq : Act → Prop} (hsel : Region.noSelect ops = true) (hB : midB md ops base k0 n = true)
    (hfin : ∀ j ∈ Region.ready md ops final, ¬ (k0 ≤ j ∧ j < n)) :
    ∀ (l : List Oper) (k : Nat) (listed : Array Bool) (a : Act), (∀ j, j < l.length → l[j]? = ops[k + j]?) → k + l.length = n → k0 ≤ k → MidInv md ops base k0 n listed →
    midLex md ops final l.length k listed = true → wpQuiet P ops C Lq l a →
    wpAnyLM P md ops C k0 n (fun listed' a' => listed' = final ∧ Lq a') l.length listed a
  | [], k, listed, a, _, hk, _, inv, hL, h => by
    exact ⟨by simpa [midLex] using hL, h⟩
  | o :: l, k, listed, a, hl, hk, hk0, inv, hL, h => by
    have h0 : ops[k]? = some o := by simpa using (hl 0 (by simp)).symm
    simp only [List.length_cons, midLex, Bool.and_eq_true] at hL
    obtain ⟨⟨hr, hf⟩, hL'⟩ := hL
    have hkn : k0 ≤ k ∧ k < n := by simp only [List.length_cons] at hk; omega
    have hr' : k ∈ Region.ready md ops listed := by simpa using hr
    have hst : qOp P ops C k (wpQuiet P ops C Lq l) a := by unfold qOp; simp only [h0]; exact h
    obtain ⟨v, hy, hK⟩ := yieldsIn_of_qOp h0 hst
    exact wpAnyLM_first h0 (Region.noSelect_spec hsel) hB hkn (fun listed' a' hL => by rw [hL.1]; exact hfin) l.length listed a inv (Region.free_spec h0 hf) hr' hy
      (wpAnyLM_lex hsel hB hfin l (k + 1) _ _ (fun j hj => by have := hl (j + 1) (by simp; omega); simpa [Nat.add_assoc, Nat.add_comm 1 j] using this) (by simp only [List.length_cons] at hk; omega) (by omega) (inv.set hr' hkn) hL' hK)

/-- THE LAW. -/
theorem wpAny_quiet_mid {Q : Exit → Act → World → Prop} {a : Act} {w : World} {l : List Oper} {base : Array Bool} {f : Nat} (C : World → Prop) (final : Array Bool) (k m g : Nat)
    (hsel : Region.noSelect l.toArray = true) (hB : midB md l.toArray base k (k + m) = true) (hlex : midLex md l.toArray final m k base = true)
    (hfin : (Region.ready md l.toArray final).all (fun j => !(decide (k ≤ j) && decide (j < k + m))) = true) (hf : f = m + g) (hC : C w)
    (h : wpQuiet P l.toArray C (fun a' => ∀ w', C w' → wpAny P md l.toArray Q g final a' w') ((l.drop k).take m) a) : wpAny P md l.toArray Q f base a w := by
  subst hf
  have hB' := hB
  simp only [midB, Bool.and_eq_true, decide_eq_true_eq, List.all_eq_true, List.mem_range, Bool.or_eq_true, List.any_eq_true] at hB'
  obtain ⟨⟨⟨⟨hkn, hn⟩, _⟩, _⟩, hcl⟩ := hB'
  have hn' : k + m ≤ l.length := by simpa using hn
  have hlen : ((l.drop k).take m).length = m := by simp; omega
  have hsz : ∀ j, base.getD j false = true → j < l.toArray.size → ∀ oj, l.toArray[j]? = some oj → ∀ e ∈ oj.after, Region.binds md e = true → base.getD e.on false = true := by
    intro j hj hlt oj hoj e he hb
    have := hcl j hlt
    simp only [hoj, hj, Bool.not_true, Bool.false_eq_true, false_or, Array.all_eq_true_iff_forall_mem, Bool.or_eq_true, Bool.not_eq_true'] at this
    rcases this e he with h | h
    · rw [h] at hb; cases hb
    · exact h
  have inv0 : MidInv md l.toArray base k (k + m) base :=
    ⟨fun j oj hj hl e he hb => hsz j hl (Array.getElem?_eq_some_iff.1 hj).1 oj hj e he hb, fun t _ => rfl⟩
  have H := wpAnyLM_lex (P := P) (md := md) hsel hB (fun j hj => by
    have := List.all_eq_true.1 hfin j hj
    simp at this
    omega) ((l.drop k).take m) k base a (fun j hj => by
      rw [hlen] at hj
      simp [hj]) (by rw [hlen]) (Nat.le_refl _) inv0 (by rw [hlen]; exact hlex) h
  rw [hlen] at H
  exact wpAny_of_mid (fun listed a' w' hw' hL => by rw [hL.1]; exact hL.2 w' hw') m base a w hC H
end
end MS

/-
  Lemmas for walks of whatever seat: rows of words, bytes, appends, regions with a tail.
-/
namespace Go.Proofs.Ythlmphloalbhnaa
open Go.RowKit MS

def rowW (s : Array W32) : Array Value := s.map (fun x => .int .u32 (wv x))
theorem size_rowW (s : Array W32) : (rowW s).size = s.size := by simp [rowW]
theorem rowW_set (s : Array W32) (i : Nat) (x : W32) : (rowW s).setIfInBounds i (.int .u32 (wv x)) = rowW (s.setIfInBounds i x) := by
  simp [rowW, Array.map_setIfInBounds]
theorem one_rowW (s : Array W32) : (rowW s).all (·.oneCell') = true := by simp [rowW, Value.oneCell']
theorem rowW_get (s : Array W32) (i : Nat) (h : i < s.size) : (rowW s)[i]? = some (.int .u32 (wv (s.getD i 0))) := by simp [rowW, h]
theorem wpAny_take_at {P : Program} {ops : Array Oper} {md : Region.Mode} {Q : Exit → Act → World → Prop} {i d : Nat} {oi : Oper} {v : Value} {fuel : Nat} {listed : Array Bool} {a : Act} {w : World} (hi : ops[i]? = some oi)
    (hs : Region.noSelect ops = true) (hf : Region.free md ops listed i = true) (hr : (Region.ready md ops listed).contains i = true)
    (hQ : ∀ c a w, Q (.panic c) (a.put (some d) v) w → Q (.panic c) a w) (hd : oi.dst = some d) (hy : Yields P ops oi v a)
    (h : wpAny P md ops Q fuel (listed.setIfInBounds i true) (a.put (some d) v) w) : wpAny P md ops Q (fuel + 1) listed a w :=
  wpAny_take hi hs hf hr (by rw [hd]; exact hQ) hy (by rw [hd]; exact h)
theorem wpAny_tail {P : Program} {md : Region.Mode} {Q : Exit → Act → World → Prop} {l : List Oper} {listed : Array Bool} {a : Act} {w : World} (n g : Nat) (hB : Region.seqB md l.toArray g n listed = true) (hg : (l.drop n).length = g)
    (h : wpList P l.toArray Q (l.drop n) a w) : wpAny P md l.toArray Q g listed a w := by
  subst hg
  exact wpAny_of_seq (l.drop n) n listed a w (fun j => by simp [List.getElem?_drop]) hB h
theorem grown_set {w0 w : World} {b : Nat} (h : w0.grownBy w (some b)) (k i : Nat) (v : Value) : w0.grownBy ((w.drewN k).setCell ⟨b, i, none⟩ v) (some b) := by
  refine ⟨h.os, h.tape, h.output, by simpa [World.setCell] using h.size, fun j hj hne => ?_⟩
  rw [heap_setCell_other _ _ _ _ (fun e => hne (by rw [e]))]
  exact h.block j hj hne
theorem row_set {w : World} {b T : Nat} {cs : Array Value} (h : w.heap[b]? = some (.cells cs T (0, 0))) (k i : Nat) (v : Value) : ((w.drewN k).setCell ⟨b, i, none⟩ v).heap[b]? = some (.cells (cs.setIfInBounds i v) T (0, 0)) :=
  heap_setCell_same (w.drewN k) b i cs T v h
theorem below_setRow {B g : Nat} {w0 w : World} (h : Below B w0 w) (hg : B ≤ g) (cs : Array Value) : Below B w0 (w.setRow g cs) :=
  ⟨h.os, h.tape, h.output, by simpa using h.size, fun k hk => by rw [setRow_other _ _ _ _ (by omega)]; exact h.block k hk⟩
theorem below_drewN {B : Nat} {w0 w : World} (h : Below B w0 w) (k : Nat) : Below B w0 (w.drewN k) := ⟨h.os, h.tape, h.output, h.size, h.block⟩

def valB (b : UInt8) : Value := .int .u8 (b.toNat : Int)
def vls (l : List UInt8) : List Value := l.map valB
theorem vls_app (l : List UInt8) (b : UInt8) : vls (l ++ [b]) = vls l ++ [valB b] := by simp [vls]
def wvs (l : List W32) : List Value := l.map (fun x => .int .u32 (wv x))
theorem one_cell (w : World) (x : Value) (T : Nat) : ∀ j u, [x][j]? = some u → (w.alloc (.cells #[x] T (0, 0))).cell? ((⟨w.heap.size, 0, none⟩ : Addr).add j) = some u := by
  intro j u hu
  obtain ⟨rfl, rfl⟩ : j = 0 ∧ u = x := by
    cases j with
    | zero => exact ⟨rfl, by simpa using hu.symm⟩
    | succ m => simp at hu
  exact cell_of_row _ _ _ _ _ _ (MapKept.heap_alloc w _).1
theorem one_one (x : Value) (h : x.oneCell' = true) : ∀ u ∈ [x], u.oneCell' = true := by
  intro u hu
  rw [List.mem_singleton.1 hu]
  exact h
theorem le_alloc {B : Nat} {w : World} (h : B ≤ w.heap.size) (o : Obj) : B ≤ (w.alloc o).heap.size := by
  rw [World.size_alloc]
  exact Nat.le_succ_of_le h
theorem below_app {w0 wr w' : World} (hb : Below w0.heap.size w0 wr) (o : Obj) (v : Value) (n : Nat) (e : TypeId) (xs : List Value) (ho : wr.ownsRow w0.heap.size e 1 v n xs) (hg : (wr.alloc o).grownBy w' v.ownBlock) : Below w0.heap.size w0 w' :=
  (below_alloc hb o).grown hg (by rw [World.size_alloc]; exact Nat.le_succ_of_le hb.size) (fun m hm => (ho.lt m hm).1)
theorem conv_out {B2 cap g : Nat} {w : World} (l : List UInt8) (n : Nat) (hl : l.length = n) (hown : w.ownsRow B2 5 1 (.slice (some ⟨g, 0, none⟩) n cap) n (vls l)) :
    (convert 54 9 (.slice (some ⟨g, 0, none⟩) n cap)).run Try.prog w = .ok (.string (bs l)) w := by
  refine run_bytes_to_string w 54 9 5 Try.underlying54 Try.underlying5 Try.underlying9 g 0 n cap l hl (fun j h => ?_)
  have := hown.cellAt j (by omega)
  rw [Nat.zero_add, this]
  simp [vls, valB, h]
theorem conv_nil (w : World) : (convert 54 9 (.slice none 0 0)).run Try.prog w = .ok (.string ⟨#[]⟩) w := by
  rw [run_convert_bytes_string w 54 9 5 _ _ _ Try.underlying54 Try.underlying5 Try.underlying9]
  simp [Conv.bytesToString, Sem.run_pure]
  rfl
theorem ls_get (s : ByteArray) (j : Nat) (h : j < s.size) : s[j]'h = (ls s).getD j 0 := by
  have hl : j < s.data.toList.length := by simpa using h
  unfold ls
  rw [List.getD_eq_getElem?_getD, List.getElem?_eq_getElem hl]
  rfl
theorem ext4 (s : ByteArray) (j : Nat) (h : 4 * j + 4 ≤ s.size) : s.extract (4 * j) (4 * j + 4) = ByteArray.mk #[(ls s).getD (4 * j) 0, (ls s).getD (4 * j + 1) 0, (ls s).getD (4 * j + 2) 0, (ls s).getD (4 * j + 3) 0] := by
  apply ls_inj
  rw [ls_extract]
  have hl : (ls s).length = s.size := length_ls s
  generalize ls s = l at hl
  show (l.drop (4 * j)).take (4 * j + 4 - 4 * j) = [_, _, _, _]
  rw [show 4 * j + 4 - 4 * j = 4 by omega]
  apply List.ext_getElem
  · simp; omega
  · intro i h1 h2
    simp at h1
    have h4 : i < 4 := by omega
    have hi : 4 * j + i < l.length := by omega
    match i, h4 with
    | 0, _ => simp [show 4 * j < l.length by omega]
    | 1, _ => simp [show 4 * j + 1 < l.length by omega]
    | 2, _ => simp [show 4 * j + 2 < l.length by omega]
    | 3, _ => simp [show 4 * j + 3 < l.length by omega]
theorem or_mul (a b k : Nat) (h : a < 2 ^ k) : a ||| b * 2 ^ k = b * 2 ^ k + a := by
  rw [Nat.or_comm, ← Nat.shiftLeft_eq, Nat.shiftLeft_add_eq_or_of_lt h]
theorem run_index_row (T n : Nat) (hu : Try.prog.underlying T = some (.array n 25)) (t : Array W32) (hz : t.size = n) (j : Nat) (hj : j < n) (w : World) : (Instr.index T (.agg (rowW t)) (.int .i64 j)).run Try.prog w = .ok (.int .u32 (wv (t.getD j 0))) w := by
  have hn : (0 : Int) ≤ j ∧ (j : Int) < n := by omega
  have hi : (Try.prog.info? 25).map (·.size) = some 1 := by kernel_rfl
  have hjt : j < t.size := by omega
  cases hq : Try.prog.info? 25 with
  | none => simp [hq] at hi
  | some i =>
    have hs : i.size = 1 := by simpa [hq] using hi
    simp [Instr.index, run_underlying hu, asIntOf, go_sem, sizeOf, typeInfo, hq, hs, hn]
    have hx : (rowW t)[j]? = some (.int .u32 (wv (t.getD j 0))) := by simp [rowW, hjt]
    rw [if_pos hj, hx]
    simp [hjt]

theorem be_ar1 (a b : Nat) : a * 16777216 + b * 65536 = (a * 256 + b) * 65536 := by omega
theorem be_ar2 (a b c : Nat) : a * 16777216 + b * 65536 + c * 256 = (a * 65536 + b * 256 + c) * 256 := by omega
theorem be_ar3 (a b c d : Nat) : 16777216 * a + 65536 * b + 256 * c + d = a * 16777216 + (b * 65536 + (c * 256 + d)) := by omega
theorem be_ar4 (a b c d : Nat) : 16777216 * a + 65536 * b + 256 * c + d = a * 16777216 + b * 65536 + c * 256 + d := by omega
/-- A word, the highest byte first. -/
def beN (a b c d : Nat) : W32 := BitVec.ofNat 32 (16777216 * a + 65536 * b + 256 * c + d)
theorem be_or4 (a b c d : Nat) (ha : a < 256) (hb : b < 256) (hc : c < 256) (hd : d < 256) :
    bits .or .u32 (bits .or .u32 (bits .or .u32 ((a : Int) % 4294967296 * 16777216 % 4294967296) ((b : Int) % 4294967296 * 65536 % 4294967296)) ((c : Int) % 4294967296 * 256 % 4294967296)) ((d : Int) % 4294967296)
      = wv (beN a b c d) := by
  have e0 : (a : Int) % 4294967296 * 16777216 % 4294967296 = ((a * 16777216 : Nat) : Int) := by omega
  have e1 : (b : Int) % 4294967296 * 65536 % 4294967296 = ((b * 65536 : Nat) : Int) := by omega
  have e2 : (c : Int) % 4294967296 * 256 % 4294967296 = ((c * 256 : Nat) : Int) := by omega
  have e3 : (d : Int) % 4294967296 = ((d : Nat) : Int) := by omega
  have bound : ∀ x y m : Nat, x < 256 → y < m → x * m + y < 256 * m := fun x y m hx hy =>
    Nat.lt_of_lt_of_le (show x * m + y < (x + 1) * m by rw [Nat.succ_mul]; exact Nat.add_lt_add_left hy _) (Nat.mul_le_mul_right _ hx)
  have l1 : c * 256 + d < 65536 := bound c d 256 hc hd
  have l2 : b * 65536 + (c * 256 + d) < 16777216 := bound b _ 65536 hb l1
  have l3 : a * 16777216 + (b * 65536 + (c * 256 + d)) < 4294967296 := bound a _ 16777216 ha l2
  have m1 : b * 65536 < 16777216 := Nat.lt_of_le_of_lt (Nat.le_add_right _ _) l2
  have m2 : c * 256 < 65536 := Nat.lt_of_le_of_lt (Nat.le_add_right _ _) l1
  have k0 : a * 16777216 < 4294967296 := Nat.lt_of_le_of_lt (Nat.le_add_right _ _) l3
  have k1 : b * 65536 < 4294967296 := Nat.lt_trans m1 (by decide)
  have k2 : c * 256 < 4294967296 := Nat.lt_trans m2 (by decide)
  have k3 : d < 4294967296 := Nat.lt_trans hd (by decide)
  have q1 : a * 16777216 ||| b * 65536 = a * 16777216 + b * 65536 := by rw [Nat.or_comm]; exact or_mul (b * 65536) a 24 m1
  have q2 : (a * 16777216 + b * 65536) ||| c * 256 = a * 16777216 + b * 65536 + c * 256 := by
    have := or_mul (c * 256) (a * 256 + b) 16 m2
    rw [Nat.or_comm, be_ar1]
    exact this
  have q3 : (a * 16777216 + b * 65536 + c * 256) ||| d = a * 16777216 + b * 65536 + c * 256 + d := by
    have := or_mul d (a * 65536 + b * 256 + c) 8 hd
    rw [Nat.or_comm, be_ar2]
    exact this
  have z1 : a * 16777216 + b * 65536 < 4294967296 := Nat.lt_of_le_of_lt (Nat.add_le_add_left (Nat.le_add_right _ _) _) l3
  have z2 : a * 16777216 + b * 65536 + c * 256 < 4294967296 := by
    rw [Nat.add_assoc]
    exact Nat.lt_of_le_of_lt (Nat.add_le_add_left (Nat.add_le_add_left (Nat.le_add_right _ _) _) _) l3
  rw [e0, e1, e2, e3, u32_or_nat _ _ k0 k1, q1, u32_or_nat _ _ z1 k2, q2, u32_or_nat _ _ z2 k3, q3]
  unfold wv beN
  rw [BitVec.toNat_ofNat, Nat.mod_eq_of_lt (by rw [be_ar3]; exact l3)]
  rw [be_ar4]
end Go.Proofs.Ythlmphloalbhnaa
