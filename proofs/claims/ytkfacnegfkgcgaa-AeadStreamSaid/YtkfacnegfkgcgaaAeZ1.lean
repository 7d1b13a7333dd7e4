/-
  Texts of this seat, put together: Kit, Word, ChaA, ChaB, ChaC, QTail, RefL, RefQ, RefR, QMid, TurnA, TurnB, Idx, Fin, Fill, RWord, Beg, BlkA, BlkB, RBlkA.
-/
import Derived.WalkKit
import Derived.WalkSpells
import Derived.WalkLawsBesides
import Derived.Lib.Hide
import Derived.Lib.ConvBytes
import Derived.Deep.QuietTactic
import Derived.BigQuiet
import Derived.Deep.RegionHeld3
import Derived.Deep.LoopGhost
import Derived.Deep.DeepFit
import Derived.Deep.DeepMust
import Derived.Deep.RegionWith
import Derived.StillTailTactics
import Derived.Laws.ResultCell
import Derived.Test.YtkfacnegfkgcgaaProg
import Derived.StillTail
import Derived.Deep.Quiet
import Derived.Deep.RegionLaw
import Derived.BigRegion
import Derived.Deep.AppendLies

/-
  Small laws that the walks of this seat share: bytes made to a string, blocks known whole, worlds that grow. No program stands in them.
-/
namespace MS
open Go Go.RowKit

/-- A list of bytes as a string, and back. -/
def bs (l : List UInt8) : ByteArray := ⟨l.toArray⟩
def ls (s : ByteArray) : List UInt8 := s.data.toList
theorem bs_ls (s : ByteArray) : bs (ls s) = s := rfl
theorem ls_bs (l : List UInt8) : ls (bs l) = l := rfl
theorem size_bs (l : List UInt8) : (bs l).size = l.length := by show l.toArray.size = _; simp
theorem length_ls (s : ByteArray) : (ls s).length = s.size := by show s.data.toList.length = s.data.size; simp
theorem ls_inj {s t : ByteArray} (h : ls s = ls t) : s = t := by rw [← bs_ls s, ← bs_ls t, h]
theorem bs_append (a b : List UInt8) : bs a ++ bs b = bs (a ++ b) := ByteArray.mk_append_mk a b
theorem ls_append (a b : ByteArray) : ls (a ++ b) = ls a ++ ls b := by
  have h := bs_append (ls a) (ls b)
  rw [bs_ls, bs_ls] at h
  rw [h, ls_bs]
theorem ls_extract (s : ByteArray) (a b : Nat) : ls (s.extract a b) = ((ls s).drop a).take (b - a) := by
  rw [← bs_ls s]
  unfold bs
  rw [ByteArray.extract_mk]
  rfl
theorem get_ls (s : ByteArray) (i : Nat) (h : i < s.size) : s[i] = (ls s)[i]'(by rw [length_ls]; exact h) := rfl

theorem fold_push (ns : List UInt8) : ∀ (s : ByteArray), (ns.map (fun b => (b.toNat : Int))).foldl (fun r n => r.push (UInt8.ofNat n.toNat)) s = s ++ bs ns := by
  induction ns with
  | nil => intro s; apply ls_inj; rw [ls_append]; simp [ls_bs]
  | cons b ns ih =>
    intro s
    simp only [List.map_cons, List.foldl_cons]
    rw [ih]
    apply ls_inj
    rw [ls_append, ls_append, ls_bs, ls_bs]
    have : ls (s.push (UInt8.ofNat (b.toNat : Int).toNat)) = ls s ++ [b] := by
      simp [ls, ByteArray.push]
    rw [this]
    simp

/-- 'string(b)' of bytes whose cells are known. -/
theorem run_bytes_to_string {P : Program} (w : World) (src dst e : TypeId) (hs : P.underlying src = some (.slice e)) (he : P.underlying e = some (.int .u8)) (hd : P.underlying dst = some .string)
    (b off len cap : Nat) (l : List UInt8) (hl : l.length = len) (hc : ∀ j (h : j < l.length), w.cell? ⟨b, off + j, none⟩ = some (.int .u8 (l[j].toNat : Int))) :
    (convert src dst (.slice (some ⟨b, off, none⟩) len cap)).run P w = .ok (.string (bs l)) w := by
  subst hl
  rw [run_convert_bytes_string w src dst e _ _ _ hs he hd]
  have hl : (loadCells ⟨b, off, none⟩ l.length).run P w = .ok ((l.map (fun b => (b.toNat : Int))).map (Value.int .u8)).toArray w := by
    have := run_loadCells_list (P := P) w ⟨b, off, none⟩ ((l.map (fun b => (b.toNat : Int))).map (Value.int .u8)) (fun j v hj => by
      simp only [List.map_map, List.getElem?_map, Option.map_eq_some_iff] at hj
      obtain ⟨x, hx, rfl⟩ := hj
      obtain ⟨h, rfl⟩ := List.getElem?_eq_some_iff.1 hx
      have hadd : (⟨b, off, none⟩ : Addr).add j = ⟨b, off + j, none⟩ := by unfold Addr.add; split <;> simp_all
      rw [hadd, hc j h]; rfl)
    simpa using this
  rw [run_bytesToString w _ _ _ _ hl, fold_push]
  congr 2

/-- A block of bytes, whole: what 'string(b)' makes of it. -/
theorem run_block_to_string {P : Program} (w : World) (src dst e : TypeId) (hs : P.underlying src = some (.slice e)) (he : P.underlying e = some (.int .u8)) (hd : P.underlying dst = some .string)
    (b len cap : Nat) (t : TypeId) (fr : Nat × Nat) (l : List UInt8) (cs : Array Value) (hb : w.heap[b]? = some (.cells cs t fr)) (hl : l.length = len) (hc : ∀ j (h : j < l.length), cs[j]? = some (.int .u8 (l[j].toNat : Int))) :
    (convert src dst (.slice (some ⟨b, 0, none⟩) len cap)).run P w = .ok (.string (bs l)) w := by
  refine run_bytes_to_string w src dst e hs he hd b 0 len cap l hl (fun j h => ?_)
  rw [Nat.zero_add, cell_of_row w b j cs t fr hb, hc j h]
/-- 'string([]byte{x})' and 'string([]byte{x, y})' over the block just made. -/
theorem run_one_to_string {P : Program} (src dst e : TypeId) (hs : P.underlying src = some (.slice e)) (he : P.underlying e = some (.int .u8)) (hd : P.underlying dst = some .string) (w : World) (x : UInt8) :
    (convert src dst (.slice (some ⟨w.heap.size, 0, none⟩) 1 1)).run P (w.alloc (.cells #[.int .u8 (x.toNat : Int)] e)) = .ok (.string (bs [x])) (w.alloc (.cells #[.int .u8 (x.toNat : Int)] e)) := by
  refine run_block_to_string _ src dst e hs he hd _ 1 1 e (0, 0) [x] _ (heap_alloc_new w _) rfl (fun j h => ?_)
  match j, h with
  | 0, _ => rfl
theorem run_two_to_string {P : Program} (src dst e : TypeId) (hs : P.underlying src = some (.slice e)) (he : P.underlying e = some (.int .u8)) (hd : P.underlying dst = some .string) (w : World) (x y : UInt8) :
    (convert src dst (.slice (some ⟨w.heap.size, 0, none⟩) 2 2)).run P (w.alloc (.cells #[.int .u8 (x.toNat : Int), .int .u8 (y.toNat : Int)] e)) = .ok (.string (bs [x, y])) (w.alloc (.cells #[.int .u8 (x.toNat : Int), .int .u8 (y.toNat : Int)] e)) := by
  refine run_block_to_string _ src dst e hs he hd _ 2 2 e (0, 0) [x, y] _ (heap_alloc_new w _) rfl (fun j h => ?_)
  match j, h with
  | 0, _ => rfl
  | 1, _ => rfl

theorem u8_of (n : Int) (h0 : 0 ≤ n) (h1 : n ≤ 255) : ((UInt8.ofNat n.toNat).toNat : Int) = n := by
  rw [UInt8.toNat_ofNat']; omega
theorem run_one_int {P : Program} (src dst e : TypeId) (hs : P.underlying src = some (.slice e)) (he : P.underlying e = some (.int .u8)) (hd : P.underlying dst = some .string) (n : Int) (h0 : 0 ≤ n) (h1 : n ≤ 255) (w : World) (b : Nat) (hb : w.heap.size = b) :
    (convert src dst (.slice (some ⟨b, 0, none⟩) 1 1)).run P (w.alloc (.cells #[.int .u8 n] e)) = .ok (.string (bs [UInt8.ofNat n.toNat])) (w.alloc (.cells #[.int .u8 n] e)) := by
  subst hb
  have h := run_one_to_string (P := P) src dst e hs he hd w (UInt8.ofNat n.toNat)
  rwa [u8_of n h0 h1] at h
theorem run_two_int {P : Program} (src dst e : TypeId) (hs : P.underlying src = some (.slice e)) (he : P.underlying e = some (.int .u8)) (hd : P.underlying dst = some .string) (n m : Int) (h0 : 0 ≤ n) (h1 : n ≤ 255) (h2 : 0 ≤ m) (h3 : m ≤ 255) (w : World) (b : Nat) (hb : w.heap.size = b) :
    (convert src dst (.slice (some ⟨b, 0, none⟩) 2 2)).run P (w.alloc (.cells #[.int .u8 n, .int .u8 m] e)) = .ok (.string (bs [UInt8.ofNat n.toNat, UInt8.ofNat m.toNat])) (w.alloc (.cells #[.int .u8 n, .int .u8 m] e)) := by
  subst hb
  have h := run_two_to_string (P := P) src dst e hs he hd w (UInt8.ofNat n.toNat) (UInt8.ofNat m.toNat)
  rwa [u8_of n h0 h1, u8_of m h2 h3] at h

theorem bcell {W w1 : World} (hb : Below W.heap.size W w1) : (∀ b o, b < W.heap.size → w1.cell? ⟨b, o, none⟩ = W.cell? ⟨b, o, none⟩) ∧ (∀ b o, b < W.heap.size → w1.frozen? ⟨b, o, none⟩ = W.frozen? ⟨b, o, none⟩) :=
  ⟨fun b o h => hb.cell (p := ⟨b, o, none⟩) h, fun b o h => hb.frozen (p := ⟨b, o, none⟩) h⟩
theorem below_chain {w a b : World} (h : Below w.heap.size w a) (h2 : Below a.heap.size a b) : Below w.heap.size w b := h.trans (h2.mono h.size)
theorem below_alloc {w a : World} (h : Below w.heap.size w a) (o : Obj) : Below w.heap.size w (a.alloc o) := h.alloc h.size o
theorem below_setCell {w a : World} (h : Below w.heap.size w a) {p : Addr} (hp : w.heap.size ≤ p.block) (u : Value) : Below w.heap.size w (a.setCell p u) := h.setCell hp u
/-- The call's own first blocks, in a later world. -/
theorem own1 {w v : World} {X : Obj} (K : Below (w.alloc X).heap.size (w.alloc X) v) :
    (∀ o, v.cell? ⟨w.heap.size, o, none⟩ = (w.alloc X).cell? ⟨w.heap.size, o, none⟩) ∧ (∀ o, v.frozen? ⟨w.heap.size, o, none⟩ = (w.alloc X).frozen? ⟨w.heap.size, o, none⟩) ∧ w.heap.size < v.heap.size := by
  have hs : (w.alloc X).heap.size = w.heap.size + 1 := by simp
  have h := K.size
  rw [hs] at h
  exact ⟨fun o => K.cell (p := ⟨w.heap.size, o, none⟩) (by rw [hs]; exact Nat.lt_succ_self _), fun o => K.frozen (p := ⟨w.heap.size, o, none⟩) (by rw [hs]; exact Nat.lt_succ_self _), h⟩
theorem own2 {w v : World} {X Y : Obj} (K : Below ((w.alloc X).alloc Y).heap.size ((w.alloc X).alloc Y) v) :
    (∀ o, v.cell? ⟨w.heap.size, o, none⟩ = ((w.alloc X).alloc Y).cell? ⟨w.heap.size, o, none⟩) ∧ (∀ o, v.frozen? ⟨w.heap.size, o, none⟩ = ((w.alloc X).alloc Y).frozen? ⟨w.heap.size, o, none⟩) ∧
    (∀ o, v.cell? ⟨w.heap.size + 1, o, none⟩ = ((w.alloc X).alloc Y).cell? ⟨w.heap.size + 1, o, none⟩) ∧ (∀ o, v.frozen? ⟨w.heap.size + 1, o, none⟩ = ((w.alloc X).alloc Y).frozen? ⟨w.heap.size + 1, o, none⟩) ∧ w.heap.size < v.heap.size ∧ w.heap.size + 1 < v.heap.size := by
  have hs : ((w.alloc X).alloc Y).heap.size = w.heap.size + 1 + 1 := by simp
  have h := K.size
  rw [hs] at h
  exact ⟨fun o => K.cell (p := ⟨w.heap.size, o, none⟩) (by rw [hs]; show w.heap.size < _; omega), fun o => K.frozen (p := ⟨w.heap.size, o, none⟩) (by rw [hs]; show w.heap.size < _; omega),
    fun o => K.cell (p := ⟨w.heap.size + 1, o, none⟩) (by rw [hs]; show w.heap.size + 1 < _; omega), fun o => K.frozen (p := ⟨w.heap.size + 1, o, none⟩) (by rw [hs]; show w.heap.size + 1 < _; omega), by omega, by omega⟩
theorem extract_head (s : ByteArray) (p n : Nat) (h : p + n ≤ s.size) : (s.extract p s.size).extract 0 n = s.extract p (p + n) := by
  apply ls_inj
  rw [ls_extract, ls_extract, ls_extract, List.drop_zero, List.take_take]
  congr 1
  omega
theorem extract_tail (s : ByteArray) (p n : Nat) (h : p + n ≤ s.size) : (s.extract p s.size).extract n (s.size - p) = s.extract (p + n) s.size := by
  apply ls_inj
  rw [ls_extract, ls_extract, ls_extract, List.drop_take, List.drop_drop, List.take_take]
  congr 1
  omega
theorem size_extract_to (s : ByteArray) (p : Nat) : (s.extract p s.size).size = s.size - p := by
  rw [ByteArray.size_extract]; omega
theorem isEmpty_size (b : ByteArray) : b.toList.isEmpty = (b.size == 0) := by
  rw [ByteArray.toList_eq, Bool.eq_iff_iff]
  simp only [List.isEmpty_iff, beq_iff_eq]
  rw [← List.length_eq_zero_iff, Array.length_toList]
  rfl
theorem toList_nil (b : ByteArray) : b.toList = [] ↔ b.size = 0 := by
  rw [← List.isEmpty_iff, isEmpty_size]; simp
theorem beq_cast (a b : Nat) : ((a : Int) == (b : Int)) = (a == b) := by rw [Bool.eq_iff_iff]; simp; omega
theorem beq0 (a : Nat) : ((a : Int) == 0) = (a == 0) := beq_cast a 0
theorem size_empty (b : ByteArray) : b = ByteArray.empty ↔ b.size = 0 := by
  refine ⟨fun h => by rw [h]; rfl, fun h => ls_inj ?_⟩
  have : (ls b).length = 0 := by rw [length_ls]; exact h
  rw [List.eq_nil_of_length_eq_zero this]; rfl
theorem take_snoc (s : ByteArray) (k : Nat) (h : k < s.size) : s.data.toList.take (k + 1) = s.data.toList.take k ++ [s[k]] := by
  rw [List.take_succ_eq_append_getElem (by simpa using h)]; rfl
end MS

/-
  Words of 32 bits in a walk: the walk's integers are kept as those of bit vectors, under a name that simp does not open.
-/
namespace MS
open Go Go.RowKit
abbrev W32 := BitVec 32
/-- A word's number. -/
def wv (x : W32) : Int := (x.toNat : Int)
theorem wv_nonneg (x : W32) : 0 ≤ wv x := by unfold wv; omega
theorem wv_lt (x : W32) : wv x < 4294967296 := by unfold wv; have := x.isLt; omega
theorem wv_inj {x y : W32} (h : wv x = wv y) : x = y := by
  unfold wv at h; exact BitVec.eq_of_toNat_eq (by omega)
theorem wv_beq (x y : W32) : (wv x == wv y) = (x == y) := by
  rw [Bool.eq_iff_iff, beq_iff_eq, beq_iff_eq]; exact ⟨wv_inj, fun h => by rw [h]⟩
/-- Any number that fits is a word's. -/
theorem wv_of (n : Int) (h0 : 0 ≤ n) (h1 : n < 4294967296) : ∃ x : W32, n = wv x :=
  ⟨BitVec.ofNat 32 n.toNat, by unfold wv; rw [BitVec.toNat_ofNat]; omega⟩
theorem w_add (x y : W32) : (wv x + wv y) % 4294967296 = wv (x + y) := by
  unfold wv; rw [BitVec.toNat_add]; omega
theorem w_xor (x y : W32) : bits .xor .u32 (wv x) (wv y) = wv (x ^^^ y) := by
  unfold wv; rw [u32_xor_nat _ _ x.isLt y.isLt, BitVec.toNat_xor]
theorem w_or (x y : W32) : bits .or .u32 (wv x) (wv y) = wv (x ||| y) := by
  unfold wv; rw [u32_or_nat _ _ x.isLt y.isLt, BitVec.toNat_or]
theorem w_and (x y : W32) : bits .and .u32 (wv x) (wv y) = wv (x &&& y) := by
  unfold wv; rw [u32_and_nat _ _ x.isLt y.isLt, BitVec.toNat_and]
/-- A turn to the left by n places, as the walk writes it. -/
theorem w_rot (x : W32) (n m : Nat) (h : n < 32) (hm : n + m = 32) (a b : Int) (ha : a = ((x.toNat * 2 ^ n % 2 ^ 32 : Nat) : Int)) (hb : b = ((x.toNat / 2 ^ m : Nat) : Int)) :
    bits .or .u32 a b = wv (x.rotateLeft n) := by
  subst ha; subst hb
  have h1 : x.toNat * 2 ^ n % 2 ^ 32 < 4294967296 := Nat.mod_lt _ (by decide)
  have h2 : x.toNat / 2 ^ m < 4294967296 := Nat.lt_of_le_of_lt (Nat.div_le_self _ _) x.isLt
  unfold wv
  rw [u32_or_nat _ _ h1 h2, BitVec.rotateLeft_def, Nat.mod_eq_of_lt h, BitVec.toNat_or, BitVec.toNat_shiftLeft, BitVec.toNat_ushiftRight, Nat.shiftLeft_eq, Nat.shiftRight_eq_div_pow, show 32 - n = m by omega]
theorem w_sub (x y : W32) : (wv x - wv y) % 4294967296 = wv (x - y) := by
  unfold wv; rw [BitVec.toNat_sub]; have := x.isLt; have := y.isLt; omega
/-- A turn to the right, as it is written out. -/
def rotr (x : W32) (n m : Nat) : W32 := BitVec.ofNat 32 (x.toNat / 2 ^ n + x.toNat * 2 ^ m % 2 ^ 32)
theorem rotr_lt (x : Nat) (n m : Nat) (hm : n + m = 32) (hx : x < 2 ^ 32) : x / 2 ^ n + x * 2 ^ m % 2 ^ 32 < 2 ^ 32 ∧ x / 2 ^ n < 2 ^ m ∧ (x * 2 ^ m % 2 ^ 32) % 2 ^ m = 0 := by
  have h1 : x / 2 ^ n < 2 ^ m := by
    rw [Nat.div_lt_iff_lt_mul (Nat.two_pow_pos n), ← Nat.pow_add, Nat.add_comm m n, hm]; exact hx
  have h2 : (x * 2 ^ m % 2 ^ 32) % 2 ^ m = 0 := by
    rw [Nat.mod_mod_of_dvd _ (Nat.pow_dvd_pow 2 (by omega)), Nat.mul_mod_left]
  have h3 : x * 2 ^ m % 2 ^ 32 < 2 ^ 32 := Nat.mod_lt _ (by decide)
  refine ⟨?_, h1, h2⟩
  have h4 : x * 2 ^ m % 2 ^ 32 = 2 ^ m * (x * 2 ^ m % 2 ^ 32 / 2 ^ m) := by
    have := Nat.div_add_mod (x * 2 ^ m % 2 ^ 32) (2 ^ m); omega
  have h5 : x * 2 ^ m % 2 ^ 32 / 2 ^ m < 2 ^ n := by
    rw [Nat.div_lt_iff_lt_mul (Nat.two_pow_pos m), ← Nat.pow_add, hm]; exact h3
  have h6 : 2 ^ m * (x * 2 ^ m % 2 ^ 32 / 2 ^ m) + 2 ^ m ≤ 2 ^ 32 := by
    rw [← Nat.mul_succ]
    calc 2 ^ m * (x * 2 ^ m % 2 ^ 32 / 2 ^ m).succ ≤ 2 ^ m * 2 ^ n := Nat.mul_le_mul_left _ h5
      _ = 2 ^ 32 := by rw [← Nat.pow_add, Nat.add_comm, hm]
  omega
theorem w_rotr (x : W32) (n m : Nat) (hm : n + m = 32) (a b : Int) (ha : a = ((x.toNat / 2 ^ n : Nat) : Int)) (hb : b = ((x.toNat * 2 ^ m % 2 ^ 32 : Nat) : Int)) :
    bits .or .u32 a b = wv (rotr x n m) := by
  subst ha; subst hb
  obtain ⟨h0, h1, h2⟩ := rotr_lt x.toNat n m hm x.isLt
  have h3 : x.toNat * 2 ^ m % 2 ^ 32 < 4294967296 := Nat.mod_lt _ (by decide)
  have h4 : x.toNat / 2 ^ n < 4294967296 := Nat.lt_of_le_of_lt (Nat.div_le_self _ _) x.isLt
  rw [u32_or_nat _ _ h4 h3, Nat.or_comm, nat_join m _ _ h2 h1, Nat.add_comm]
  unfold wv rotr
  rw [BitVec.toNat_ofNat, Nat.mod_eq_of_lt h0]
theorem w_r7 (x : W32) : bits .or .u32 (wv x / 128) (wv x * 33554432 % 4294967296) = wv (rotr x 7 25) := w_rotr x 7 25 (by decide) _ _ (by unfold wv; omega) (by unfold wv; omega)
theorem w_r8 (x : W32) : bits .or .u32 (wv x / 256) (wv x * 16777216 % 4294967296) = wv (rotr x 8 24) := w_rotr x 8 24 (by decide) _ _ (by unfold wv; omega) (by unfold wv; omega)
theorem w_r12 (x : W32) : bits .or .u32 (wv x / 4096) (wv x * 1048576 % 4294967296) = wv (rotr x 12 20) := w_rotr x 12 20 (by decide) _ _ (by unfold wv; omega) (by unfold wv; omega)
theorem w_r16 (x : W32) : bits .or .u32 (wv x / 65536) (wv x * 65536 % 4294967296) = wv (rotr x 16 16) := w_rotr x 16 16 (by decide) _ _ (by unfold wv; omega) (by unfold wv; omega)
end MS

/-
  Contracts of chacha: the quarter round.
-/
namespace Go.Proofs.Ytkfacnegfkgcgaa
open Go.RowKit MS
attribute [local go_sem] w_add w_xor w_or w_and w_sub

set_option maxHeartbeats 400000 in
theorem rot16 (x : W32) (w : World) :
    Calls Try.prog 33 #[.int .u32 (wv x), .int .i64 16] w fun e w' => e = .returned (.int .u32 (wv (x.rotateLeft 16))) ∧ w = w' := by
  have a1 : bits BinOp.and IntKind.u64 16 31 = 16 := by decide +kernel
  have a2 := w_rot x 16 16 (by decide) (by decide) (wv x * 65536 % 4294967296) (wv x / 65536) (by unfold wv; omega) (by unfold wv; omega)
  go_enter Try.func33, Try.ntmps33
  go_wp2
  go_ret
  exact ⟨rfl, rfl⟩

set_option maxHeartbeats 400000 in
theorem rot12 (x : W32) (w : World) :
    Calls Try.prog 33 #[.int .u32 (wv x), .int .i64 12] w fun e w' => e = .returned (.int .u32 (wv (x.rotateLeft 12))) ∧ w = w' := by
  have a1 : bits BinOp.and IntKind.u64 12 31 = 12 := by decide +kernel
  have a2 := w_rot x 12 20 (by decide) (by decide) (wv x * 4096 % 4294967296) (wv x / 1048576) (by unfold wv; omega) (by unfold wv; omega)
  go_enter Try.func33, Try.ntmps33
  go_wp2
  go_ret
  exact ⟨rfl, rfl⟩

set_option maxHeartbeats 400000 in
theorem rot8 (x : W32) (w : World) :
    Calls Try.prog 33 #[.int .u32 (wv x), .int .i64 8] w fun e w' => e = .returned (.int .u32 (wv (x.rotateLeft 8))) ∧ w = w' := by
  have a1 : bits BinOp.and IntKind.u64 8 31 = 8 := by decide +kernel
  have a2 := w_rot x 8 24 (by decide) (by decide) (wv x * 256 % 4294967296) (wv x / 16777216) (by unfold wv; omega) (by unfold wv; omega)
  go_enter Try.func33, Try.ntmps33
  go_wp2
  go_ret
  exact ⟨rfl, rfl⟩

set_option maxHeartbeats 400000 in
theorem rot7 (x : W32) (w : World) :
    Calls Try.prog 33 #[.int .u32 (wv x), .int .i64 7] w fun e w' => e = .returned (.int .u32 (wv (x.rotateLeft 7))) ∧ w = w' := by
  have a1 : bits BinOp.and IntKind.u64 7 31 = 7 := by decide +kernel
  have a2 := w_rot x 7 25 (by decide) (by decide) (wv x * 128 % 4294967296) (wv x / 33554432) (by unfold wv; omega) (by unfold wv; omega)
  go_enter Try.func33, Try.ntmps33
  go_wp2
  go_ret
  exact ⟨rfl, rfl⟩

/-- The quarter round. -/
def qa (a b c d : W32) : W32 := let a := a + b; let d := (d ^^^ a).rotateLeft 16; let c := c + d; let b := (b ^^^ c).rotateLeft 12; a + b
def qd (a b c d : W32) : W32 := let a1 := a + b; let d1 := (d ^^^ a1).rotateLeft 16; (d1 ^^^ qa a b c d).rotateLeft 8
def qc (a b c d : W32) : W32 := let a1 := a + b; let d1 := (d ^^^ a1).rotateLeft 16; (c + d1) + qd a b c d
def qb (a b c d : W32) : W32 := let a1 := a + b; let d1 := (d ^^^ a1).rotateLeft 16; let c1 := c + d1; (((b ^^^ c1).rotateLeft 12) ^^^ qc a b c d).rotateLeft 7

set_option maxHeartbeats 400000 in
theorem quarter_any (a b c d : W32) (w : World) :
    Calls Try.prog 18 #[.int .u32 (wv a), .int .u32 (wv b), .int .u32 (wv c), .int .u32 (wv d)] w fun e w' =>
      e = .returned (.tuple #[.int .u32 (wv (qa a b c d)), .int .u32 (wv (qb a b c d)), .int .u32 (wv (qc a b c d)), .int .u32 (wv (qd a b c d))]) ∧ w = w' := by
  go_enter Try.func18, Try.ntmps18
  go_wp2_with fail
  refine (rot16 _ _).mono ?_
  rintro e w' ⟨rfl, rfl⟩
  go_wp2_with fail
  refine (rot12 _ _).mono ?_
  rintro e w' ⟨rfl, rfl⟩
  go_wp2_with fail
  refine (rot8 _ _).mono ?_
  rintro e w' ⟨rfl, rfl⟩
  go_wp2_with fail
  refine (rot7 _ _).mono ?_
  rintro e w' ⟨rfl, rfl⟩
  go_wp2_with fail
  refine bodyPost_ret (v := .tuple #[.int .u32 (wv (qa a b c d)), .int .u32 (wv (qb a b c d)), .int .u32 (wv (qc a b c d)), .int .u32 (wv (qd a b c d))]) ?_ rfl ⟨rfl, rfl⟩
  simp [results, Try.results18, go_sem, qa, qb, qc, qd]
end Go.Proofs.Ytkfacnegfkgcgaa

/-
  Contracts of chacha: what is refused; the fixed answer of the stage.
-/
namespace Go.Proofs.Ytkfacnegfkgcgaa
open Go.RowKit MS
attribute [local go_sem] w_add w_xor w_or w_and w_sub

set_option maxHeartbeats 400000 in
theorem begin_no (key nonce : ByteArray) (c : Int) (h : key.size ≠ 32 ∨ nonce.size ≠ 12) (w : World) :
    Calls Try.prog 35 #[.string key, .string nonce, .int .u32 c] w fun e w' => e = .returned (.tuple #[.agg #[.int .u32 0, .int .u32 0, .int .u32 0, .int .u32 0, .int .u32 0, .int .u32 0, .int .u32 0, .int .u32 0, .int .u32 0, .int .u32 0, .int .u32 0, .int .u32 0, .int .u32 0, .int .u32 0, .int .u32 0, .int .u32 0], .bool false]) ∧ Below w.heap.size w w' := by
  by_cases h1 : key.size = 32
  · have h2 : nonce.size ≠ 12 := by omega
    have t1 : ((key.size : Int) != 32) = false := by simp; omega
    have t2 : ((nonce.size : Int) != 12) = true := by simp; omega
    have H1 := Lib.hid h1
    clear h h1 h2
    go_enter Try.func35, Try.ntmps35
    go_wp2_with fail
    refine bodyPost_ret (v := .tuple #[.agg #[.int .u32 0, .int .u32 0, .int .u32 0, .int .u32 0, .int .u32 0, .int .u32 0, .int .u32 0, .int .u32 0, .int .u32 0, .int .u32 0, .int .u32 0, .int .u32 0, .int .u32 0, .int .u32 0, .int .u32 0, .int .u32 0], .bool false]) (by simp [results, Try.results35, go_sem]) rfl ⟨rfl, ?_⟩
    repeat (first | (with_reducible exact Below.refl _ _) | (with_reducible refine below_setCell ?_ (by simp) _) | (with_reducible apply below_alloc))
  · have t1 : ((key.size : Int) != 32) = true := by simp; omega
    clear h h1
    go_enter Try.func35, Try.ntmps35
    go_wp2_with fail
    refine bodyPost_ret (v := .tuple #[.agg #[.int .u32 0, .int .u32 0, .int .u32 0, .int .u32 0, .int .u32 0, .int .u32 0, .int .u32 0, .int .u32 0, .int .u32 0, .int .u32 0, .int .u32 0, .int .u32 0, .int .u32 0, .int .u32 0, .int .u32 0, .int .u32 0], .bool false]) (by simp [results, Try.results35, go_sem]) rfl ⟨rfl, ?_⟩
    repeat (first | (with_reducible exact Below.refl _ _) | (with_reducible refine below_setCell ?_ (by simp) _) | (with_reducible apply below_alloc))

set_option maxHeartbeats 400000 in
theorem block_no (key nonce : ByteArray) (c : Int) (h : key.size ≠ 32 ∨ nonce.size ≠ 12) (w : World) :
    Calls Try.prog 21 #[.string key, .string nonce, .int .u32 c] w fun e w' => e = .returned (.tuple #[.string ⟨#[]⟩, .bool false]) ∧ Below w.heap.size w w' := by
  have H := Lib.hid (begin_no key nonce c h)
  clear h
  go_enter Try.func21, Try.ntmps21
  go_wp2_with fail
  refine (H.out _).mono ?_
  rintro e w1 ⟨rfl, hb1⟩
  go_wp2_with fail
  go_ret2
  refine ⟨rfl, ?_⟩
  repeat (first | (with_reducible exact Below.refl _ _) | (with_reducible refine below_setCell ?_ (by simp) _) | (with_reducible apply below_alloc) | (with_reducible refine below_chain ?_ hb1))

set_option maxHeartbeats 400000 in
theorem awake05_any (w : World) :
    Calls Try.prog 20 #[] w fun e w' => e = .returned (.bool true) ∧ Below w.heap.size w w' := by
  have hq := quarter_any 0x11111111#32 0x01020304#32 0x9b8d6f43#32 0x01234567#32
  rw [show wv (0x11111111#32) = 286331153 from rfl, show wv (0x01020304#32) = 16909060 from rfl, show wv (0x9b8d6f43#32) = 2609737539 from rfl, show wv (0x01234567#32) = 19088743 from rfl,
    show wv (qa 0x11111111#32 0x01020304#32 0x9b8d6f43#32 0x01234567#32) = 3928658676 from by decide +kernel, show wv (qb 0x11111111#32 0x01020304#32 0x9b8d6f43#32 0x01234567#32) = 3407673550 from by decide +kernel,
    show wv (qc 0x11111111#32 0x01020304#32 0x9b8d6f43#32 0x01234567#32) = 1166100270 from by decide +kernel, show wv (qd 0x11111111#32 0x01020304#32 0x9b8d6f43#32 0x01234567#32) = 1484899515 from by decide +kernel] at hq
  have H := Lib.hid hq
  have B := Lib.hid (block_no (bs [115, 104, 111, 114, 116]) (bs []) 0 (.inl (by decide)))
  clear hq
  go_enter Try.func20, Try.ntmps20
  go_wp2_with fail
  refine (H.out _).mono ?_
  rintro e w1 ⟨rfl, rfl⟩
  go_wp2_with fail
  refine (B.out _).mono ?_
  rintro e w2 ⟨rfl, hb2⟩
  go_wp2_with fail
  go_ret
  exact ⟨rfl, hb2⟩

end Go.Proofs.Ytkfacnegfkgcgaa

/-
  mailsacklaw05.ChachaBack and ChachaQuarters: the walks.
-/
namespace Go.Proofs.Ytkfacnegfkgcgaa
open Go.RowKit MS
attribute [local go_sem] w_add w_xor w_or w_and w_sub

set_option maxRecDepth 100000 in
theorem rotr_rotl (x : W32) (n m : Nat) (hn : 0 < n) (hm : n + m = 32) (k : n = 7 ∨ n = 8 ∨ n = 12 ∨ n = 16) : rotr (x.rotateLeft n) n m = x := by
  apply BitVec.eq_of_toNat_eq
  unfold rotr
  have h0 := x.isLt
  have e : (x.rotateLeft n).toNat = x.toNat * 2 ^ n % 2 ^ 32 + x.toNat / 2 ^ m := by
    obtain ⟨h0, h1, h2⟩ := rotr_lt x.toNat m n (by omega) x.isLt
    rw [BitVec.rotateLeft_def, Nat.mod_eq_of_lt (by omega), BitVec.toNat_or, BitVec.toNat_shiftLeft, BitVec.toNat_ushiftRight, Nat.shiftLeft_eq, Nat.shiftRight_eq_div_pow, show 32 - n = m by omega]
    exact nat_join n _ _ h2 h1
  rw [e, BitVec.toNat_ofNat]
  have hx : x.toNat < 4294967296 := x.isLt
  generalize x.toNat = X at *
  clear h0 e x
  rcases k with rfl | rfl | rfl | rfl
  · obtain rfl : 25 = m := by omega
    show (((X * 128 % 4294967296 + X / 33554432) / 128 + (X * 128 % 4294967296 + X / 33554432) * 33554432 % 4294967296) % 4294967296) = X
    have q1 : X * 128 % 4294967296 = (X % 33554432) * 128 := by omega
    have q2 : X / 33554432 < 128 := by omega
    have q3 : X = (X / 33554432) * 33554432 + X % 33554432 := by omega
    have q4 : X % 33554432 < 33554432 := by omega
    rw [q1]
    generalize X / 33554432 = q at *
    generalize X % 33554432 = r at *
    have q5 : (r * 128 + q) / 128 = r := by rw [Nat.add_comm, Nat.add_mul_div_right _ _ (by decide), Nat.div_eq_of_lt q2, Nat.zero_add]
    have q6 : (r * 128 + q) * 33554432 % 4294967296 = q * 33554432 := by
      rw [show (r * 128 + q) * 33554432 = q * 33554432 + r * 4294967296 by omega, Nat.add_mul_mod_self_right, Nat.mod_eq_of_lt (by omega)]
    rw [q5, q6]; omega
  · obtain rfl : 24 = m := by omega
    show (((X * 256 % 4294967296 + X / 16777216) / 256 + (X * 256 % 4294967296 + X / 16777216) * 16777216 % 4294967296) % 4294967296) = X
    have q1 : X * 256 % 4294967296 = (X % 16777216) * 256 := by omega
    have q2 : X / 16777216 < 256 := by omega
    have q3 : X = (X / 16777216) * 16777216 + X % 16777216 := by omega
    have q4 : X % 16777216 < 16777216 := by omega
    rw [q1]
    generalize X / 16777216 = q at *
    generalize X % 16777216 = r at *
    have q5 : (r * 256 + q) / 256 = r := by rw [Nat.add_comm, Nat.add_mul_div_right _ _ (by decide), Nat.div_eq_of_lt q2, Nat.zero_add]
    have q6 : (r * 256 + q) * 16777216 % 4294967296 = q * 16777216 := by
      rw [show (r * 256 + q) * 16777216 = q * 16777216 + r * 4294967296 by omega, Nat.add_mul_mod_self_right, Nat.mod_eq_of_lt (by omega)]
    rw [q5, q6]; omega
  · obtain rfl : 20 = m := by omega
    show (((X * 4096 % 4294967296 + X / 1048576) / 4096 + (X * 4096 % 4294967296 + X / 1048576) * 1048576 % 4294967296) % 4294967296) = X
    have q1 : X * 4096 % 4294967296 = (X % 1048576) * 4096 := by omega
    have q2 : X / 1048576 < 4096 := by omega
    have q3 : X = (X / 1048576) * 1048576 + X % 1048576 := by omega
    have q4 : X % 1048576 < 1048576 := by omega
    rw [q1]
    generalize X / 1048576 = q at *
    generalize X % 1048576 = r at *
    have q5 : (r * 4096 + q) / 4096 = r := by rw [Nat.add_comm, Nat.add_mul_div_right _ _ (by decide), Nat.div_eq_of_lt q2, Nat.zero_add]
    have q6 : (r * 4096 + q) * 1048576 % 4294967296 = q * 1048576 := by
      rw [show (r * 4096 + q) * 1048576 = q * 1048576 + r * 4294967296 by omega, Nat.add_mul_mod_self_right, Nat.mod_eq_of_lt (by omega)]
    rw [q5, q6]; omega
  · obtain rfl : 16 = m := by omega
    show (((X * 65536 % 4294967296 + X / 65536) / 65536 + (X * 65536 % 4294967296 + X / 65536) * 65536 % 4294967296) % 4294967296) = X
    have q1 : X * 65536 % 4294967296 = (X % 65536) * 65536 := by omega
    have q2 : X / 65536 < 65536 := by omega
    have q3 : X = (X / 65536) * 65536 + X % 65536 := by omega
    have q4 : X % 65536 < 65536 := by omega
    rw [q1]
    generalize X / 65536 = q at *
    generalize X % 65536 = r at *
    have q5 : (r * 65536 + q) / 65536 = r := by rw [Nat.add_comm, Nat.add_mul_div_right _ _ (by decide), Nat.div_eq_of_lt q2, Nat.zero_add]
    have q6 : (r * 65536 + q) * 65536 % 4294967296 = q * 65536 := by
      rw [show (r * 65536 + q) * 65536 = q * 65536 + r * 4294967296 by omega, Nat.add_mul_mod_self_right, Nat.mod_eq_of_lt (by omega)]
    rw [q5, q6]; omega

end Go.Proofs.Ytkfacnegfkgcgaa

/-
  A region that draws its order, whose first operations are quiet in a class of worlds (they read; their callees leave a world of the class and hand back one value), and whose last operations stand in one forced order: walked once, in the order of the text.
  (After the guide's own two theorems on quiet regions and on still ones with a tail: the class of the one, the tail of the other.)
-/
namespace MS
open Go Go.RowKit
section
variable {P : Program} {ops : Array Oper} {md : Region.Mode} {C : World → Prop}

def wpAnyLQ (P : Program) (md : Region.Mode) (ops : Array Oper) (C : World → Prop) (n : Nat) (L : Array Bool → Act → Prop) : Nat → Array Bool → Act → Prop
  | 0, listed, a => L listed a
  | f + 1, listed, a =>
    Region.ready md ops listed ≠ [] ∧ ∀ i ∈ Region.ready md ops listed, i < n ∧ qOp P ops C i (wpAnyLQ P md ops C n L f (listed.setIfInBounds i true)) a

theorem wpAny_of_headQ {n g : Nat} {L : Array Bool → Act → Prop} {Q' : Exit → Act → World → Prop} (hL : ∀ listed a w, C w → L listed a → wpAny P md ops Q' g listed a w) :
    ∀ (f : Nat) (listed : Array Bool) (a : Act) (w : World), C w → wpAnyLQ P md ops C n L f listed a → wpAny P md ops Q' (f + g) listed a w
  | 0, listed, a, w, hw, h => by rw [Nat.zero_add]; exact hL _ _ _ hw h
  | f + 1, listed, a, w, hw, h => by
    rw [show f + 1 + g = (f + g) + 1 by omega]
    exact ⟨fun h0 => absurd h0 h.1, fun i hi => wpOp_of_qOp hw (fun a' w' hw' h' => wpAny_of_headQ hL f _ a' w' hw' h') (h.2 i hi).2⟩

theorem wpAnyLQ_first {n i : Nat} {oi : Oper} {v : Value} {L : Array Bool → Act → Prop} (hi : ops[i]? = some oi) (hsel : ∀ (j : Nat) (o : Oper) cs b, ops[j]? = some o → o.op ≠ .select cs b)
    (hs : Region.sinkB md ops n = true) (hc : Region.chainB md ops n = true) (hn : n < ops.size) (hin : i < n)
    (hdone : ∀ listed a, L listed a → ∀ j ∈ Region.ready md ops listed, n ≤ j) :
    ∀ (f : Nat) (listed : Array Bool) (a : Act), HeadInv md ops n listed →
      (∀ j oj, ops[j]? = some oj → j ≠ i → listed.getD j true = false → (∀ e ∈ oj.after, Region.binds md e = true → e.on ≠ i) → oi.apart ops oj = true) →
      i ∈ Region.ready md ops listed → YieldsIn P ops C oi v a →
      wpAnyLQ P md ops C n L f (listed.setIfInBounds i true) (a.put oi.dst v) → wpAnyLQ P md ops C n L (f + 1) listed a := by
  intro f
  induction f with
  | zero =>
    intro listed a inv _ hr hy H
    have hun := (mem_ready.1 hr).1
    refine ⟨fun h => (by rw [h] at hr; cases hr), fun j hj => ?_⟩
    have hjn : j < n := by
      rcases Nat.lt_or_ge j n with h | h
      · exact h
      · exact absurd hj (tail_waits hs hc hn inv _ i rfl hin hun j h)
    refine ⟨hjn, ?_⟩
    by_cases hji : j = i
    · subst hji; exact hy.qOp hi H
    · have := hdone _ _ H j (ready_mono hj hji)
      omega
  | succ f ih =>
    intro listed a inv hfree hr hy H
    have hun := (mem_ready.1 hr).1
    refine ⟨fun h => (by rw [h] at hr; cases hr), fun j hj => ?_⟩
    have hjn : j < n := by
      rcases Nat.lt_or_ge j n with h | h
      · exact h
      · exact absurd hj (tail_waits hs hc hn inv _ i rfl hin hun j h)
    refine ⟨hjn, ?_⟩
    by_cases hji : j = i
    · subst hji; exact hy.qOp hi H
    · have h1 := (H.2 j (ready_mono hj hji)).2
      obtain ⟨hjun, oj, hoj, hall⟩ := mem_ready.1 hj
      have hnot : ∀ e ∈ oj.after, Region.binds md e = true → e.on ≠ i := fun e he hb heq => by
        have h1 := hall e he hb
        rw [heq, getD_both hun] at h1
        cases h1
      have h2 := qOp_put hoj (hfree j oj hoj hji hjun hnot) (fun cs b => hsel i oi cs b hi) (fun cs b => hsel j oj cs b hoj) hy h1
      have hfree' : ∀ k ok, ops[k]? = some ok → k ≠ i → (listed.setIfInBounds j true).getD k true = false →
          (∀ e ∈ ok.after, Region.binds md e = true → e.on ≠ i) → oi.apart ops ok = true := fun k ok hk hki hun hno => by
        refine hfree k ok hk hki ?_ hno
        by_cases hjk : j = k
        · subst hjk; exact hjun
        · rw [getD_set_ne true hjk] at hun; exact hun
      refine qOp_mono (fun a' h3 => ih (listed.setIfInBounds j true) a' (inv.set hj hjn) hfree' (ready_mono hr (Ne.symm hji)) h3.1 ?_) h2
      rw [Array.setIfInBounds_comm _ _ hji]
      exact h3.2

theorem wpAnyLQ_lex {n g : Nat} {Lq : Act → Prop} (hsel : Region.noSelect ops = true) (hs : Region.sinkB md ops n = true) (hc : Region.chainB md ops n = true) (hn : n < ops.size) :
    ∀ (l : List Oper) (k : Nat) (listed : Array Bool) (a : Act), (∀ j, j < l.length → l[j]? = ops[k + j]?) → k + l.length = n → HeadInv md ops n listed →
    Region.lexHead md ops g l.length k listed = true → wpQuiet P ops C Lq l a →
    wpAnyLQ P md ops C n (fun listed' a' => Region.seqB md ops g n listed' = true ∧ Lq a') l.length listed a
  | [], k, listed, a, _, hk, _, hB, h => by
    have : k = n := by simpa using hk
    subst this
    exact ⟨by simpa [Region.lexHead] using hB, h⟩
  | o :: l, k, listed, a, hl, hk, inv, hB, h => by
    have h0 : ops[k]? = some o := by simpa using (hl 0 (by simp)).symm
    simp only [List.length_cons, Region.lexHead, Bool.and_eq_true] at hB
    obtain ⟨⟨hr, hf⟩, hB'⟩ := hB
    have hkn : k < n := by simp only [List.length_cons] at hk; omega
    have hr' : k ∈ Region.ready md ops listed := by simpa using hr
    have hst : qOp P ops C k (wpQuiet P ops C Lq l) a := by unfold qOp; simp only [h0]; exact h
    obtain ⟨v, hy, hK⟩ := yieldsIn_of_qOp h0 hst
    exact wpAnyLQ_first h0 (Region.noSelect_spec hsel) hs hc hn hkn (fun listed' a' hL => seqB_ready hL.1) l.length listed a inv (Region.free_spec h0 hf) hr' hy
      (wpAnyLQ_lex hsel hs hc hn l (k + 1) _ _ (fun j hj => by have := hl (j + 1) (by simp; omega); simpa [Nat.add_assoc, Nat.add_comm 1 j] using this) (by simp only [List.length_cons] at hk; omega) (inv.set hr' hkn) hB' hK)

theorem wp_region_quiet_tail {id : Nat} {Q : Exit → Act → World → Prop} {a : Act} {w : World} {l : List Oper} (n : Nat) (C : World → Prop) (hm : P.follows .mixedOrders = true) (hB : Region.lexTailB .any l.toArray n = true) (hC : C w.drew)
    (h : wpQuiet P l.toArray C (fun a' => ∀ w', C w' → wpList P l.toArray Q (l.drop n) a' w') (l.take n) a) : (Code.region id l.toArray true).wp P Q a w := by
  simp only [Region.lexTailB, Bool.and_eq_true, decide_eq_true_eq] at hB
  obtain ⟨⟨⟨⟨hsel, hn⟩, hs⟩, hc⟩, hlex⟩ := hB
  have hn' : n < l.length := by simpa using hn
  have htl : (l.take n).length = n := by simp; omega
  have hdl : (l.drop n).length = l.toArray.size - n := by simp
  have inv0 : HeadInv .any l.toArray n (Array.replicate l.toArray.size false) :=
    ⟨by simp, fun j oj _ hl => (by rw [getD_replicate_false] at hl; cases hl), fun t _ ht => getD_in (by simpa using ht) (getD_replicate_false _ _)⟩
  have H := wpAnyLQ_lex (md := .any) (g := l.toArray.size - n) hsel hs hc hn (l.take n) 0 _ a (fun j hj => by
    have hj' : j < n := by rw [htl] at hj; exact hj
    simp [hj']) (by simpa using htl) inv0 (by rw [htl]; exact hlex) h
  refine wp_region_any hm ?_
  have := wpAny_of_headQ (Q' := Q) (g := l.toArray.size - n) (fun listed a' w' hw' hL => by
    have := wpAny_of_seq (md := .any) (Q' := Q) (l.drop n) n listed a' w' (fun j => by simp [List.getElem?_drop]) (by rw [hdl]; exact hL.1) (hL.2 w' hw')
    rwa [hdl] at this) _ _ _ w.drew hC H
  rw [htl, show n + (l.toArray.size - n) = l.toArray.size by omega] at this
  exact this

/-- The class of the worlds behind some draws. -/
theorem wp_region_draws_tail {id : Nat} {Q : Exit → Act → World → Prop} {a : Act} {w : World} {l : List Oper} (n : Nat) (hm : P.follows .mixedOrders = true) (hB : Region.lexTailB .any l.toArray n = true)
    (h : wpQuiet P l.toArray (fun w' => ∃ k, w' = w.drewN k) (fun a' => ∀ w', (∃ k, w' = w.drewN k) → wpList P l.toArray Q (l.drop n) a' w') (l.take n) a) : (Code.region id l.toArray true).wp P Q a w :=
  wp_region_quiet_tail n _ hm hB ⟨1, rfl⟩ h
end
end MS

/-
  Contracts of mailsackref05: turned to the left; the quarter round in a slice.
-/
namespace Go.Proofs.Ytkfacnegfkgcgaa
open Go.RowKit MS
attribute [local go_sem] w_add w_xor w_or w_and w_sub

set_option maxHeartbeats 400000 in
theorem left16 (x : W32) (w : World) :
    Calls Try.prog 51 #[.int .u32 (wv x), .int .i64 16] w fun e w' => e = .returned (.int .u32 (wv (x.rotateLeft 16))) ∧ ∃ k, w' = w.drewN k := by
  have a2 := w_rot x 16 16 (by decide) (by decide) (wv x * 65536 % 4294967296) (wv x / 65536) (by unfold wv; omega) (by unfold wv; omega)
  go_enter Try.func51, Try.ntmps51
  go_wp2
  go_quiet (fail)
  go_wp2
  go_ret
  exact ⟨rfl, _, rfl⟩

set_option maxHeartbeats 400000 in
theorem left8 (x : W32) (w : World) :
    Calls Try.prog 51 #[.int .u32 (wv x), .int .i64 8] w fun e w' => e = .returned (.int .u32 (wv (x.rotateLeft 8))) ∧ ∃ k, w' = w.drewN k := by
  have a2 := w_rot x 8 24 (by decide) (by decide) (wv x * 256 % 4294967296) (wv x / 16777216) (by unfold wv; omega) (by unfold wv; omega)
  go_enter Try.func51, Try.ntmps51
  go_wp2
  go_quiet (fail)
  go_wp2
  go_ret
  exact ⟨rfl, _, rfl⟩

set_option maxHeartbeats 400000 in
theorem left12 (x : W32) (w : World) :
    Calls Try.prog 51 #[.int .u32 (wv x), .int .i64 12] w fun e w' => e = .returned (.int .u32 (wv (x.rotateLeft 12))) ∧ ∃ k, w' = w.drewN k := by
  have a2 := w_rot x 12 20 (by decide) (by decide) (wv x * 4096 % 4294967296) (wv x / 1048576) (by unfold wv; omega) (by unfold wv; omega)
  go_enter Try.func51, Try.ntmps51
  go_wp2
  go_quiet (fail)
  go_wp2
  go_ret
  exact ⟨rfl, _, rfl⟩

set_option maxHeartbeats 400000 in
theorem left7 (x : W32) (w : World) :
    Calls Try.prog 51 #[.int .u32 (wv x), .int .i64 7] w fun e w' => e = .returned (.int .u32 (wv (x.rotateLeft 7))) ∧ ∃ k, w' = w.drewN k := by
  have a2 := w_rot x 7 25 (by decide) (by decide) (wv x * 128 % 4294967296) (wv x / 33554432) (by unfold wv; omega) (by unfold wv; omega)
  go_enter Try.func51, Try.ntmps51
  go_wp2
  go_quiet (fail)
  go_wp2
  go_ret
  exact ⟨rfl, _, rfl⟩

end Go.Proofs.Ytkfacnegfkgcgaa

/-
  Contract of mailsackref05.quarter: a quarter round over four places of a slice, wherever they are.
-/
namespace Go.Proofs.Ytkfacnegfkgcgaa
open Go.RowKit MS
attribute [local go_sem] w_add w_xor w_or w_and w_sub

/-- Four places of a row, turned. -/
def updCh (cs : Array Value) (ia ib ic id : Nat) (A B D E : W32) : Array Value :=
  (((cs.setIfInBounds ia (.int .u32 (wv A))).setIfInBounds ib (.int .u32 (wv B))).setIfInBounds ic (.int .u32 (wv D))).setIfInBounds id (.int .u32 (wv E))

/-- What is known of the world between two statements. -/
structure QSt (b ia ib ic id m T : Nat) (cs : Array Value) (w0 w : World) (A B D E : W32) : Prop where
  ab : ia ≠ ib
  ac : ia ≠ ic
  ad : ia ≠ id
  bc : ib ≠ ic
  bd : ib ≠ id
  cd : ic ≠ id
  la : ia < cs.size
  lb : ib < cs.size
  lc : ic < cs.size
  ld : id < cs.size
  bm : b ≠ m
  row : w.heap[b]? = some (.cells (updCh cs ia ib ic id A B D E) T (0, 0))
  mrow : w.heap[m]? = some (.cells #[.int .i64 16, .int .i64 8] 3 (0, 0))
  grown : w0.grownBy w (some b)

section
variable {b ia ib ic id m T : Nat} {cs : Array Value} {w0 w : World} {A B D E : W32}
theorem QSt.cA (h : QSt b ia ib ic id m T cs w0 w A B D E) : w.cell? ⟨b, ia, none⟩ = some (.int .u32 (wv A)) := by
  rw [cell_of_row w b ia _ _ _ h.row]
  have h1 := h.la
  have h2 := Ne.symm h.ab
  have h3 := Ne.symm h.ac
  have h4 := Ne.symm h.ad
  simp [updCh, h1, h2, h3, h4]
theorem QSt.cB (h : QSt b ia ib ic id m T cs w0 w A B D E) : w.cell? ⟨b, ib, none⟩ = some (.int .u32 (wv B)) := by
  rw [cell_of_row w b ib _ _ _ h.row]
  have h1 := h.lb
  have h3 := Ne.symm h.bc
  have h4 := Ne.symm h.bd
  simp [updCh, h1, h3, h4]
theorem QSt.cC (h : QSt b ia ib ic id m T cs w0 w A B D E) : w.cell? ⟨b, ic, none⟩ = some (.int .u32 (wv D)) := by
  rw [cell_of_row w b ic _ _ _ h.row]
  have h1 := h.lc
  have h4 := Ne.symm h.cd
  simp [updCh, h1, h4]
theorem QSt.cD (h : QSt b ia ib ic id m T cs w0 w A B D E) : w.cell? ⟨b, id, none⟩ = some (.int .u32 (wv E)) := by
  rw [cell_of_row w b id _ _ _ h.row]
  have h1 := h.ld
  simp [updCh, h1]
theorem QSt.fr (h : QSt b ia ib ic id m T cs w0 w A B D E) (i : Nat) : w.frozen? ⟨b, i, none⟩ = false := frozen_of_row w b i _ _ h.row
theorem QSt.m0 (h : QSt b ia ib ic id m T cs w0 w A B D E) : w.cell? ⟨m, 0, none⟩ = some (.int .i64 16) := by rw [cell_of_row w m 0 _ _ _ h.mrow]; rfl
theorem QSt.m1 (h : QSt b ia ib ic id m T cs w0 w A B D E) : w.cell? ⟨m, 1, none⟩ = some (.int .i64 8) := by rw [cell_of_row w m 1 _ _ _ h.mrow]; rfl
theorem grown_setCh {w0 w : World} {b : Nat} (h : w0.grownBy w (some b)) (k i : Nat) (v : Value) : w0.grownBy ((w.drewN k).setCell ⟨b, i, none⟩ v) (some b) := by
  refine ⟨h.os, h.tape, h.output, by simpa [World.setCell] using h.size, fun j hj hne => ?_⟩
  rw [heap_setCell_other _ _ _ _ (fun e => hne (by rw [e]))]
  exact h.block j hj hne
theorem row_setCh {w : World} {b T : Nat} {cs : Array Value} (h : w.heap[b]? = some (.cells cs T (0, 0))) (k i : Nat) (v : Value) : ((w.drewN k).setCell ⟨b, i, none⟩ v).heap[b]? = some (.cells (cs.setIfInBounds i v) T (0, 0)) :=
  heap_setCell_same (w.drewN k) b i cs T v h
theorem row_keep {w : World} {b m : Nat} (h : b ≠ m) (k i : Nat) (v : Value) : ((w.drewN k).setCell ⟨b, i, none⟩ v).heap[m]? = w.heap[m]? :=
  heap_setCell_other _ _ _ _ (Ne.symm h)
theorem QSt.set (h : QSt b ia ib ic id m T cs w0 w A B D E) {A' B' D' E' : W32} (i : Nat) (X : W32) (k : Nat)
    (he : (updCh cs ia ib ic id A B D E).setIfInBounds i (.int .u32 (wv X)) = updCh cs ia ib ic id A' B' D' E') : QSt b ia ib ic id m T cs w0 ((w.drewN k).setCell ⟨b, i, none⟩ (.int .u32 (wv X))) A' B' D' E' :=
  { h with row := by rw [row_setCh h.row, he], mrow := by rw [row_keep h.bm]; exact h.mrow, grown := grown_setCh h.grown k i _ }
theorem QSt.setA (h : QSt b ia ib ic id m T cs w0 w A B D E) (X : W32) (k : Nat) : QSt b ia ib ic id m T cs w0 ((w.drewN k).setCell ⟨b, ia, none⟩ (.int .u32 (wv X))) X B D E := by
  refine h.set ia X k ?_
  unfold updCh
  rw [Array.setIfInBounds_comm _ _ (Ne.symm h.ad), Array.setIfInBounds_comm _ _ (Ne.symm h.ac), Array.setIfInBounds_comm _ _ (Ne.symm h.ab), Array.setIfInBounds_setIfInBounds]
theorem QSt.setB (h : QSt b ia ib ic id m T cs w0 w A B D E) (X : W32) (k : Nat) : QSt b ia ib ic id m T cs w0 ((w.drewN k).setCell ⟨b, ib, none⟩ (.int .u32 (wv X))) A X D E := by
  refine h.set ib X k ?_
  unfold updCh
  rw [Array.setIfInBounds_comm _ _ (Ne.symm h.bd), Array.setIfInBounds_comm _ _ (Ne.symm h.bc), Array.setIfInBounds_setIfInBounds]
theorem QSt.setC (h : QSt b ia ib ic id m T cs w0 w A B D E) (X : W32) (k : Nat) : QSt b ia ib ic id m T cs w0 ((w.drewN k).setCell ⟨b, ic, none⟩ (.int .u32 (wv X))) A B X E := by
  refine h.set ic X k ?_
  unfold updCh
  rw [Array.setIfInBounds_comm _ _ (Ne.symm h.cd), Array.setIfInBounds_setIfInBounds]
theorem QSt.setD (h : QSt b ia ib ic id m T cs w0 w A B D E) (X : W32) (k : Nat) : QSt b ia ib ic id m T cs w0 ((w.drewN k).setCell ⟨b, id, none⟩ (.int .u32 (wv X))) A B D X := by
  refine h.set id X k ?_
  unfold updCh
  rw [Array.setIfInBounds_setIfInBounds]
end

set_option maxHeartbeats 2000000 in
theorem rq_any (b C T ia ib ic id : Nat) (cs : Array Value) (A B D E : W32) (w : World)
    (hab : ia ≠ ib) (hac : ia ≠ ic) (had : ia ≠ id) (hbc : ib ≠ ic) (hbd : ib ≠ id) (hcd : ic ≠ id)
    (ha : ia < cs.size) (hb : ib < cs.size) (hc : ic < cs.size) (hd : id < cs.size) (hr : w.heap[b]? = some (.cells (updCh cs ia ib ic id A B D E) T (0, 0))) :
    Calls Try.prog 34 #[.slice (some ⟨b, 0, none⟩) cs.size C, .int .i64 ia, .int .i64 ib, .int .i64 ic, .int .i64 id] w fun e w' => e = .returned (.tuple #[]) ∧ w.grownBy w' (some b) ∧ w'.heap[b]? = some (.cells (updCh cs ia ib ic id (qa A B D E) (qb A B D E) (qc A B D E) (qd A B D E)) T (0, 0)) := by
  have hbz : b < w.heap.size := (Array.getElem?_eq_some_iff.1 hr).1
  have st : QSt b ia ib ic id w.heap.size T cs w (w.alloc (.cells #[.int .i64 16, .int .i64 8] 3 (0, 0))) A B D E :=
    ⟨hab, hac, had, hbc, hbd, hcd, ha, hb, hc, hd, by omega, ((MapKept.heap_alloc w _).2 b hbz).trans hr, (MapKept.heap_alloc w _).1, World.grownBy_alloc w _ _⟩
  have na : (0:Int) ≤ ia := by omega
  have nb : (0:Int) ≤ ib := by omega
  have nc : (0:Int) ≤ ic := by omega
  have nd : (0:Int) ≤ id := by omega
  have ja : (ia:Int) < (cs.size:Int) := by omega
  have jb : (ib:Int) < (cs.size:Int) := by omega
  have jc : (ic:Int) < (cs.size:Int) := by omega
  have jd : (id:Int) < (cs.size:Int) := by omega
  have ca := st.cA
  have cb := st.cB
  have cc := st.cC
  have cd := st.cD
  have fr := st.fr
  have m0 := st.m0
  have m1 := st.m1
  have HR := Lib.hid hr
  clear hr
  go_enter Try.func34, Try.ntmps34
  go_wp2_with fail
  generalize World.alloc _ _ = wn at st ca cb cc cd fr m0 m1 ⊢
  refine wp_loop_rounds 3 ?_
  rw [rounds_succ]
  go_wp2_with fail
  refine wp_region_draws_tail 12 (by kernel_rfl) (by kernel_rfl) ?_
  simp only [List.take_succ_cons, List.take_zero, List.drop_succ_cons, List.drop_zero]
  repeat (go_big_quiet_step (fail))
  refine wpQuiet_nil ?_
  intro _ hw'
  obtain ⟨k1, hw''⟩ := hw'
  subst hw''
  go_wp2_with fail
  replace st := st.setA (A + B) k1
  generalize World.setCell (World.drewN _ k1) _ _ = wn at st ⊢
  clear ca cb cc cd fr m0 m1
  have ca := st.cA
  have cb := st.cB
  have cc := st.cC
  have cd := st.cD
  have fr := st.fr
  have m0 := st.m0
  have m1 := st.m1
  refine wp_region_draws_tail 14 (by kernel_rfl) (by kernel_rfl) ?_
  simp only [List.take_succ_cons, List.take_zero, List.drop_succ_cons, List.drop_zero]
  repeat (go_big_quiet_step ((go_at_call 51; exact Calls.quiet_of (left16 _ _))))
  refine wpQuiet_nil ?_
  intro _ hw'
  obtain ⟨k2, hw''⟩ := hw'
  subst hw''
  go_wp2_with fail
  replace st := st.setD ((E ^^^ (A + B)).rotateLeft 16) k2
  generalize World.setCell (World.drewN _ k2) _ _ = wn at st ⊢
  clear ca cb cc cd fr m0 m1
  have ca := st.cA
  have cb := st.cB
  have cc := st.cC
  have cd := st.cD
  have fr := st.fr
  have m0 := st.m0
  have m1 := st.m1
  refine wp_region_draws_tail 12 (by kernel_rfl) (by kernel_rfl) ?_
  simp only [List.take_succ_cons, List.take_zero, List.drop_succ_cons, List.drop_zero]
  repeat (go_big_quiet_step (fail))
  refine wpQuiet_nil ?_
  intro _ hw'
  obtain ⟨k3, hw''⟩ := hw'
  subst hw''
  go_wp2_with fail
  replace st := st.setC (D + ((E ^^^ (A + B)).rotateLeft 16)) k3
  generalize World.setCell (World.drewN _ k3) _ _ = wn at st ⊢
  clear ca cb cc cd fr m0 m1
  have ca := st.cA
  have cb := st.cB
  have cc := st.cC
  have cd := st.cD
  have fr := st.fr
  have m0 := st.m0
  have m1 := st.m1
  refine wp_region_draws_tail 13 (by kernel_rfl) (by kernel_rfl) ?_
  simp only [List.take_succ_cons, List.take_zero, List.drop_succ_cons, List.drop_zero]
  repeat (go_big_quiet_step ((go_at_call 51; exact Calls.quiet_of (left12 _ _))))
  refine wpQuiet_nil ?_
  intro _ hw'
  obtain ⟨k4, hw''⟩ := hw'
  subst hw''
  go_wp2_with fail
  replace st := st.setB ((B ^^^ (D + ((E ^^^ (A + B)).rotateLeft 16))).rotateLeft 12) k4
  generalize World.setCell (World.drewN _ k4) _ _ = wn at st ⊢
  clear ca cb cc cd fr m0 m1
  have ca := st.cA
  have cb := st.cB
  have cc := st.cC
  have cd := st.cD
  have fr := st.fr
  have m0 := st.m0
  have m1 := st.m1
  generalize ha1 : A + B = A1 at *
  generalize hd1 : (E ^^^ A1).rotateLeft 16 = E1 at *
  generalize hc1 : D + E1 = D1 at *
  generalize hb1 : (B ^^^ D1).rotateLeft 12 = B1 at *
  rw [rounds_succ]
  go_wp2_with fail
  refine wp_region_draws_tail 12 (by kernel_rfl) (by kernel_rfl) ?_
  simp only [List.take_succ_cons, List.take_zero, List.drop_succ_cons, List.drop_zero]
  repeat (go_big_quiet_step (fail))
  refine wpQuiet_nil ?_
  intro _ hw'
  obtain ⟨k5, hw''⟩ := hw'
  subst hw''
  go_wp2_with fail
  replace st := st.setA (A1 + B1) k5
  generalize World.setCell (World.drewN _ k5) _ _ = wn at st ⊢
  clear ca cb cc cd fr m0 m1
  have ca := st.cA
  have cb := st.cB
  have cc := st.cC
  have cd := st.cD
  have fr := st.fr
  have m0 := st.m0
  have m1 := st.m1
  refine wp_region_draws_tail 14 (by kernel_rfl) (by kernel_rfl) ?_
  simp only [List.take_succ_cons, List.take_zero, List.drop_succ_cons, List.drop_zero]
  repeat (go_big_quiet_step ((go_at_call 51; exact Calls.quiet_of (left8 _ _))))
  refine wpQuiet_nil ?_
  intro _ hw'
  obtain ⟨k6, hw''⟩ := hw'
  subst hw''
  go_wp2_with fail
  replace st := st.setD ((E1 ^^^ (A1 + B1)).rotateLeft 8) k6
  generalize World.setCell (World.drewN _ k6) _ _ = wn at st ⊢
  clear ca cb cc cd fr m0 m1
  have ca := st.cA
  have cb := st.cB
  have cc := st.cC
  have cd := st.cD
  have fr := st.fr
  have m0 := st.m0
  have m1 := st.m1
  refine wp_region_draws_tail 12 (by kernel_rfl) (by kernel_rfl) ?_
  simp only [List.take_succ_cons, List.take_zero, List.drop_succ_cons, List.drop_zero]
  repeat (go_big_quiet_step (fail))
  refine wpQuiet_nil ?_
  intro _ hw'
  obtain ⟨k7, hw''⟩ := hw'
  subst hw''
  go_wp2_with fail
  replace st := st.setC (D1 + ((E1 ^^^ (A1 + B1)).rotateLeft 8)) k7
  generalize World.setCell (World.drewN _ k7) _ _ = wn at st ⊢
  clear ca cb cc cd fr m0 m1
  have ca := st.cA
  have cb := st.cB
  have cc := st.cC
  have cd := st.cD
  have fr := st.fr
  have m0 := st.m0
  have m1 := st.m1
  refine wp_region_draws_tail 13 (by kernel_rfl) (by kernel_rfl) ?_
  simp only [List.take_succ_cons, List.take_zero, List.drop_succ_cons, List.drop_zero]
  repeat (go_big_quiet_step ((go_at_call 51; exact Calls.quiet_of (left7 _ _))))
  refine wpQuiet_nil ?_
  intro _ hw'
  obtain ⟨k8, hw''⟩ := hw'
  subst hw''
  go_wp2_with fail
  replace st := st.setB ((B1 ^^^ (D1 + ((E1 ^^^ (A1 + B1)).rotateLeft 8))).rotateLeft 7) k8
  generalize World.setCell (World.drewN _ k8) _ _ = wn at st ⊢
  clear ca cb cc cd fr m0 m1
  have ca := st.cA
  have cb := st.cB
  have cc := st.cC
  have cd := st.cD
  have fr := st.fr
  have m0 := st.m0
  have m1 := st.m1
  rw [rounds_succ]
  go_wp2_with fail
  refine bodyPost_end (results_none rfl _ _ _) rfl ⟨rfl, st.grown, ?_⟩
  have hrow := st.row
  subst ha1 hd1 hc1 hb1
  exact hrow
end Go.Proofs.Ytkfacnegfkgcgaa

/-
  Contract of mailsackref05.Quarter; mailsacklaw05.ChachaQuarters: the walk.
-/
namespace Go.Proofs.Ytkfacnegfkgcgaa
open Go.RowKit MS

theorem below_of_grown {w w' : World} {o : Obj} (h : (w.alloc o).grownBy w' (some w.heap.size)) : Below w.heap.size w w' := by
  have hz : (w.alloc o).heap.size = w.heap.size + 1 := World.size_alloc w o
  refine ⟨h.os, h.tape, h.output, by have := h.size; omega, fun k hk => ?_⟩
  rw [h.block k (by omega) (by intro e; cases e; omega), Below.heap_alloc w o k hk]

set_option maxHeartbeats 400000 in
theorem rquarter_any (a b c d : W32) (w : World) :
    Calls Try.prog 19 #[.int .u32 (wv a), .int .u32 (wv b), .int .u32 (wv c), .int .u32 (wv d)] w fun e w' =>
      e = .returned (.slice (some ⟨w.heap.size, 0, none⟩) 4 4) ∧ Below w.heap.size w w' ∧ w'.heap[w.heap.size]? = some (.cells #[.int .u32 (wv (qa a b c d)), .int .u32 (wv (qb a b c d)), .int .u32 (wv (qc a b c d)), .int .u32 (wv (qd a b c d))] 22 (0, 0)) := by
  have h := fun C T w => rq_any w.heap.size C T 0 1 2 3 #[.int .u32 (wv a), .int .u32 (wv b), .int .u32 (wv c), .int .u32 (wv d)] a b c d w (by decide) (by decide) (by decide) (by decide) (by decide) (by decide) (by simp) (by simp) (by simp) (by simp)
  go_enter Try.func19, Try.ntmps19
  go_wp2_with fail
  refine (rq_any w.heap.size 4 22 0 1 2 3 #[.int .u32 (wv a), .int .u32 (wv b), .int .u32 (wv c), .int .u32 (wv d)] a b c d _ (by decide) (by decide) (by decide) (by decide) (by decide) (by decide) (by simp) (by simp) (by simp) (by simp) (MapKept.heap_alloc w _).1).mono ?_
  rintro e w1 ⟨rfl, hg, hr⟩
  go_wp2_with fail
  go_ret
  exact ⟨rfl, below_of_grown hg, hr⟩

set_option maxHeartbeats 400000 in
theorem quarters_any (a b c d : W32) (w : World) :
    Calls Try.prog 3 #[.int .u32 (wv a), .int .u32 (wv b), .int .u32 (wv c), .int .u32 (wv d)] w fun e w' => e = .returned (.bool true) ∧ Below w.heap.size w w' := by
  have H := Lib.hid (fun w => quarter_any a b c d w)
  go_enter Try.func3, Try.ntmps3
  go_wp2_with fail
  refine (H.out _).mono ?_
  rintro e w1 ⟨rfl, rfl⟩
  go_wp2_with fail
  refine (rquarter_any a b c d _).mono ?_
  rintro e w2 ⟨rfl, hb, hr⟩
  have c0 := cell_of_row w2 _ 0 _ _ _ hr
  have c1 := cell_of_row w2 _ 1 _ _ _ hr
  have c2 := cell_of_row w2 _ 2 _ _ _ hr
  have c3 := cell_of_row w2 _ 3 _ _ _ hr
  generalize qa a b c d = x at *
  generalize qb a b c d = y at *
  generalize qc a b c d = z at *
  generalize qd a b c d = v at *
  simp at c0 c1 c2 c3
  clear hr
  go_wp2_with fail
  refine (awake05_any _).mono ?_
  rintro e w3 ⟨rfl, hb2⟩
  go_wp2_with fail
  go_ret
  exact ⟨rfl, below_chain hb hb2⟩
end Go.Proofs.Ytkfacnegfkgcgaa

/-
  In the midst of a region that draws its order: a stretch [k, n) of operations that are quiet in a class of worlds, in whose last one all the others end and for which all that is left waits: walked once, in the order of the text.
-/
namespace MS
open Go Go.RowKit
section
variable {P : Program} {ops : Array Oper} {md : Region.Mode} {C : World → Prop}

structure MidInv (md : Region.Mode) (ops : Array Oper) (base : Array Bool) (k n : Nat) (listed : Array Bool) : Prop where
  closed : ∀ j oj, ops[j]? = some oj → listed.getD j false = true → ∀ e ∈ oj.after, Region.binds md e = true → listed.getD e.on false = true
  rest : ∀ t, ¬ (k ≤ t ∧ t < n) → listed.getD t true = base.getD t true

theorem MidInv.set {base : Array Bool} {k n i : Nat} {listed : Array Bool} (inv : MidInv md ops base k n listed) (hi : i ∈ Region.ready md ops listed) (hin : k ≤ i ∧ i < n) : MidInv md ops base k n (listed.setIfInBounds i true) := by
  obtain ⟨_, oi, hoi, hall⟩ := mem_ready.1 hi
  refine ⟨fun j oj hj hl e he hb => ?_, fun t ht => by rw [getD_set_ne true (by intro e; subst e; exact ht hin)]; exact inv.rest t ht⟩
  by_cases hij : i = j
  · subst hij
    have : oj = oi := Option.some.inj (hj.symm.trans hoi)
    subst this
    exact getD_set_true (hall e he hb)
  · rw [getD_set_ne false hij] at hl
    exact getD_set_true (inv.closed j oj hj hl e he hb)

def midB (md : Region.Mode) (ops : Array Oper) (base : Array Bool) (k n : Nat) : Bool :=
  decide (k < n) && decide (n ≤ ops.size) &&
  ((List.range ops.size).all fun t => (decide (k ≤ t) && decide (t < n)) || base.getD t true || ((List.range ops.size).any fun j => !(decide (k ≤ j) && decide (j < n)) && !base.getD j true && Region.waitsFor md ops t j) ||
    ((List.range n).all fun i => decide (i < k) || ((List.range n).any fun j => decide (i < j) && Region.waitsFor md ops j i) || Region.waitsFor md ops t i)) &&
  decide (0 < n) &&
  ((List.range ops.size).all fun j => !base.getD j false || match ops[j]? with | some o => o.after.all fun e => !Region.binds md e || base.getD e.on false | none => true)

theorem mid_waits {base : Array Bool} {k n : Nat} {listed : Array Bool} (hB : midB md ops base k n = true) (inv : MidInv md ops base k n listed) {i t : Nat} (hi : k ≤ i ∧ i < n) (hun : listed.getD i true = false)
    (ht : t ∈ Region.ready md ops listed) : k ≤ t ∧ t < n := by
  simp only [midB, Bool.and_eq_true, decide_eq_true_eq, List.all_eq_true, List.mem_range, Bool.or_eq_true, List.any_eq_true] at hB
  obtain ⟨⟨⟨⟨hkn, hn⟩, hT⟩, _⟩, _⟩ := hB
  obtain ⟨htun, ot, hot, hall⟩ := mem_ready.1 ht
  have htlt : t < ops.size := (Array.getElem?_eq_some_iff.1 hot).1
  refine Classical.byContradiction fun hno => ?_
  have dep : ∀ j, Region.waitsFor md ops t j = true → listed.getD j false = true := by
    intro j hw
    obtain ⟨ot', hot', e, he, hb, heq⟩ := Region.waitsFor_spec hw
    have : ot' = ot := Option.some.inj (hot'.symm.trans hot)
    subst this
    rw [← heq]
    exact hall e he hb
  have hS : ∀ x, x < n → (x < k ∨ ∃ j, j < n ∧ x < j ∧ Region.waitsFor md ops j x = true) ∨ Region.waitsFor md ops t x = true := by
    rcases hT t htlt with ((h | h) | ⟨j, _, ⟨h1, h2⟩, h3⟩) | h
    · exact absurd h hno
    · rw [inv.rest t hno, h] at htun; cases htun
    · have h4 := dep j h3
      have h5 : ¬ (k ≤ j ∧ j < n) := by
        intro hc
        simp [hc.1, hc.2] at h1
      have h6 := inv.rest j h5
      have h7 : base.getD j true = false := by simpa using h2
      rw [h7] at h6
      rw [getD_both h6] at h4
      cases h4
    · exact h
  have key : ∀ d j, n - j = d → k ≤ j → j < n → listed.getD j false = true := by
    intro d
    induction d using Nat.strongRecOn with
    | _ d ih =>
      intro j hd hj hjn
      rcases hS j hjn with (h | ⟨j', hj', hlt, hw'⟩) | h
      · omega
      · obtain ⟨oj, hoj, e, he, hb, heq⟩ := Region.waitsFor_spec hw'
        have := ih (n - j') (by omega) j' rfl (by omega) hj'
        rw [← heq]
        exact inv.closed j' oj hoj this e he hb
      · exact dep j h
  have := key _ i rfl hi.1 hi.2
  rw [getD_both hun] at this
  cases this

def wpAnyLM (P : Program) (md : Region.Mode) (ops : Array Oper) (C : World → Prop) (k n : Nat) (L : Array Bool → Act → Prop) : Nat → Array Bool → Act → Prop
  | 0, listed, a => L listed a
  | f + 1, listed, a =>
    Region.ready md ops listed ≠ [] ∧ ∀ i ∈ Region.ready md ops listed, (k ≤ i ∧ i < n) ∧ qOp P ops C i (wpAnyLM P md ops C k n L f (listed.setIfInBounds i true)) a

theorem wpAny_of_mid {k n g : Nat} {L : Array Bool → Act → Prop} {Q' : Exit → Act → World → Prop} (hL : ∀ listed a w, C w → L listed a → wpAny P md ops Q' g listed a w) :
    ∀ (f : Nat) (listed : Array Bool) (a : Act) (w : World), C w → wpAnyLM P md ops C k n L f listed a → wpAny P md ops Q' (f + g) listed a w
  | 0, listed, a, w, hw, h => by rw [Nat.zero_add]; exact hL _ _ _ hw h
  | f + 1, listed, a, w, hw, h => by
    rw [show f + 1 + g = (f + g) + 1 by omega]
    exact ⟨fun h0 => absurd h0 h.1, fun i hi => wpOp_of_qOp hw (fun a' w' hw' h' => wpAny_of_mid hL f _ a' w' hw' h') (h.2 i hi).2⟩

theorem wpAnyLM_first {base : Array Bool} {k n i : Nat} {oi : Oper} {v : Value} {L : Array Bool → Act → Prop} (hi : ops[i]? = some oi) (hsel : ∀ (j : Nat) (o : Oper) cs b, ops[j]? = some o → o.op ≠ .select cs b)
    (hB : midB md ops base k n = true) (hin : k ≤ i ∧ i < n)
    (hdone : ∀ listed a, L listed a → ∀ j ∈ Region.ready md ops listed, ¬ (k ≤ j ∧ j < n)) :
    ∀ (f : Nat) (listed : Array Bool) (a : Act), MidInv md ops base k n listed →
      (∀ j oj, ops[j]? = some oj → j ≠ i → listed.getD j true = false → (∀ e ∈ oj.after, Region.binds md e = true → e.on ≠ i) → oi.apart ops oj = true) →
      i ∈ Region.ready md ops listed → YieldsIn P ops C oi v a →
      wpAnyLM P md ops C k n L f (listed.setIfInBounds i true) (a.put oi.dst v) → wpAnyLM P md ops C k n L (f + 1) listed a := by
  intro f
  induction f with
  | zero =>
    intro listed a inv _ hr hy H
    have hun := (mem_ready.1 hr).1
    refine ⟨fun h => (by rw [h] at hr; cases hr), fun j hj => ?_⟩
    have hjn := mid_waits hB inv hin hun hj
    refine ⟨hjn, ?_⟩
    by_cases hji : j = i
    · subst hji; exact hy.qOp hi H
    · exact absurd hjn (hdone _ _ H j (ready_mono hj hji))
  | succ f ih =>
    intro listed a inv hfree hr hy H
    have hun := (mem_ready.1 hr).1
    refine ⟨fun h => (by rw [h] at hr; cases hr), fun j hj => ?_⟩
    have hjn := mid_waits hB inv hin hun hj
    refine ⟨hjn, ?_⟩
    by_cases hji : j = i
    · subst hji; exact hy.qOp hi H
    · have h1 := (H.2 j (ready_mono hj hji)).2
      obtain ⟨hjun, oj, hoj, hall⟩ := mem_ready.1 hj
      have hnot : ∀ e ∈ oj.after, Region.binds md e = true → e.on ≠ i := fun e he hb heq => by
        have h1 := hall e he hb
        rw [heq, getD_both hun] at h1
        cases h1
      have h2 := qOp_put hoj (hfree j oj hoj hji hjun hnot) (fun cs b => hsel i oi cs b hi) (fun cs b => hsel j oj cs b hoj) hy h1
      have hfree' : ∀ k ok, ops[k]? = some ok → k ≠ i → (listed.setIfInBounds j true).getD k true = false →
          (∀ e ∈ ok.after, Region.binds md e = true → e.on ≠ i) → oi.apart ops ok = true := fun k ok hk hki hun hno => by
        refine hfree k ok hk hki ?_ hno
        by_cases hjk : j = k
        · subst hjk; exact hjun
        · rw [getD_set_ne true hjk] at hun; exact hun
      refine qOp_mono (fun a' h3 => ih (listed.setIfInBounds j true) a' (inv.set hj hjn) hfree' (ready_mono hr (Ne.symm hji)) h3.1 ?_) h2
      rw [Array.setIfInBounds_comm _ _ hji]
      exact h3.2

def midLex (md : Region.Mode) (ops : Array Oper) (final : Array Bool) : Nat → Nat → Array Bool → Bool
  | 0, _, listed => listed == final
  | f + 1, k, listed => (Region.ready md ops listed).contains k && Region.free md ops listed k && midLex md ops final f (k + 1) (listed.setIfInBounds k true)

theorem wpAnyLM_lex {base final : Array Bool} {k0 n : Nat} {Lq : Act → Prop} (hsel : Region.noSelect ops = true) (hB : midB md ops base k0 n = true)
    (hfin : ∀ j ∈ Region.ready md ops final, ¬ (k0 ≤ j ∧ j < n)) :
    ∀ (l : List Oper) (k : Nat) (listed : Array Bool) (a : Act), (∀ j, j < l.length → l[j]? = ops[k + j]?) → k + l.length = n → k0 ≤ k → MidInv md ops base k0 n listed →
    midLex md ops final l.length k listed = true → wpQuiet P ops C Lq l a →
    wpAnyLM P md ops C k0 n (fun listed' a' => listed' = final ∧ Lq a') l.length listed a
  | [], k, listed, a, _, hk, _, inv, hL, h => by
    exact ⟨by simpa [midLex] using hL, h⟩
  | o :: l, k, listed, a, hl, hk, hk0, inv, hL, h => by
    have h0 : ops[k]? = some o := by simpa using (hl 0 (by simp)).symm
    simp only [List.length_cons, midLex, Bool.and_eq_true] at hL
    obtain ⟨⟨hr, hf⟩, hL'⟩ := hL
    have hkn : k0 ≤ k ∧ k < n := by simp only [List.length_cons] at hk; omega
    have hr' : k ∈ Region.ready md ops listed := by simpa using hr
    have hst : qOp P ops C k (wpQuiet P ops C Lq l) a := by unfold qOp; simp only [h0]; exact h
    obtain ⟨v, hy, hK⟩ := yieldsIn_of_qOp h0 hst
    exact wpAnyLM_first h0 (Region.noSelect_spec hsel) hB hkn (fun listed' a' hL => by rw [hL.1]; exact hfin) l.length listed a inv (Region.free_spec h0 hf) hr' hy
      (wpAnyLM_lex hsel hB hfin l (k + 1) _ _ (fun j hj => by have := hl (j + 1) (by simp; omega); simpa [Nat.add_assoc, Nat.add_comm 1 j] using this) (by simp only [List.length_cons] at hk; omega) (by omega) (inv.set hr' hkn) hL' hK)

/-- THE LAW. -/
theorem wpAny_quiet_mid {Q : Exit → Act → World → Prop} {a : Act} {w : World} {l : List Oper} {base : Array Bool} {f : Nat} (C : World → Prop) (final : Array Bool) (k m g : Nat)
    (hsel : Region.noSelect l.toArray = true) (hB : midB md l.toArray base k (k + m) = true) (hlex : midLex md l.toArray final m k base = true)
    (hfin : (Region.ready md l.toArray final).all (fun j => !(decide (k ≤ j) && decide (j < k + m))) = true) (hf : f = m + g) (hC : C w)
    (h : wpQuiet P l.toArray C (fun a' => ∀ w', C w' → wpAny P md l.toArray Q g final a' w') ((l.drop k).take m) a) : wpAny P md l.toArray Q f base a w := by
  subst hf
  have hB' := hB
  simp only [midB, Bool.and_eq_true, decide_eq_true_eq, List.all_eq_true, List.mem_range, Bool.or_eq_true, List.any_eq_true] at hB'
  obtain ⟨⟨⟨⟨hkn, hn⟩, _⟩, _⟩, hcl⟩ := hB'
  have hn' : k + m ≤ l.length := by simpa using hn
  have hlen : ((l.drop k).take m).length = m := by simp; omega
  have hsz : ∀ j, base.getD j false = true → j < l.toArray.size → ∀ oj, l.toArray[j]? = some oj → ∀ e ∈ oj.after, Region.binds md e = true → base.getD e.on false = true := by
    intro j hj hlt oj hoj e he hb
    have := hcl j hlt
    simp only [hoj, hj, Bool.not_true, Bool.false_eq_true, false_or, Array.all_eq_true_iff_forall_mem, Bool.or_eq_true, Bool.not_eq_true'] at this
    rcases this e he with h | h
    · rw [h] at hb; cases hb
    · exact h
  have inv0 : MidInv md l.toArray base k (k + m) base :=
    ⟨fun j oj hj hl e he hb => hsz j hl (Array.getElem?_eq_some_iff.1 hj).1 oj hj e he hb, fun t _ => rfl⟩
  have H := wpAnyLM_lex (P := P) (md := md) hsel hB (fun j hj => by
    have := List.all_eq_true.1 hfin j hj
    simp at this
    omega) ((l.drop k).take m) k base a (fun j hj => by
      rw [hlen] at hj
      simp [hj]) (by rw [hlen]) (Nat.le_refl _) inv0 (by rw [hlen]; exact hlex) h
  rw [hlen] at H
  exact wpAny_of_mid (fun listed a' w' hw' hL => by rw [hL.1]; exact hL.2 w' hw') m base a w hC H
end
end MS

/-
  Rows of words; chacha.turn: a quarter round over four places of an array; mailsackref05.quarter in the same words.
-/
namespace Go.Proofs.Ytkfacnegfkgcgaa
open Go.RowKit MS
attribute [local go_sem] w_add w_xor w_or w_and w_sub

theorem wpAny_take_atCh {P : Program} {ops : Array Oper} {md : Region.Mode} {Q : Exit → Act → World → Prop} {i d : Nat} {oi : Oper} {v : Value} {fuel : Nat} {listed : Array Bool} {a : Act} {w : World} (hi : ops[i]? = some oi)
    (hs : Region.noSelect ops = true) (hf : Region.free md ops listed i = true) (hr : (Region.ready md ops listed).contains i = true)
    (hQ : ∀ c a w, Q (.panic c) (a.put (some d) v) w → Q (.panic c) a w) (hd : oi.dst = some d) (hy : Yields P ops oi v a)
    (h : wpAny P md ops Q fuel (listed.setIfInBounds i true) (a.put (some d) v) w) : wpAny P md ops Q (fuel + 1) listed a w :=
  wpAny_take hi hs hf hr (by rw [hd]; exact hQ) hy (by rw [hd]; exact h)

section
variable {ia ib ic id : Nat} {cs : Array Value} {A B D E : W32}
theorem updA (hab : ia ≠ ib) (hac : ia ≠ ic) (had : ia ≠ id) (X : W32) : (updCh cs ia ib ic id A B D E).setIfInBounds ia (.int .u32 (wv X)) = updCh cs ia ib ic id X B D E := by
  unfold updCh
  rw [Array.setIfInBounds_comm _ _ (Ne.symm had), Array.setIfInBounds_comm _ _ (Ne.symm hac), Array.setIfInBounds_comm _ _ (Ne.symm hab), Array.setIfInBounds_setIfInBounds]
theorem updB (hbc : ib ≠ ic) (hbd : ib ≠ id) (X : W32) : (updCh cs ia ib ic id A B D E).setIfInBounds ib (.int .u32 (wv X)) = updCh cs ia ib ic id A X D E := by
  unfold updCh
  rw [Array.setIfInBounds_comm _ _ (Ne.symm hbd), Array.setIfInBounds_comm _ _ (Ne.symm hbc), Array.setIfInBounds_setIfInBounds]
theorem updC (hcd : ic ≠ id) (X : W32) : (updCh cs ia ib ic id A B D E).setIfInBounds ic (.int .u32 (wv X)) = updCh cs ia ib ic id A B X E := by
  unfold updCh
  rw [Array.setIfInBounds_comm _ _ (Ne.symm hcd), Array.setIfInBounds_setIfInBounds]
theorem updD (X : W32) : (updCh cs ia ib ic id A B D E).setIfInBounds id (.int .u32 (wv X)) = updCh cs ia ib ic id A B D X := by
  unfold updCh
  rw [Array.setIfInBounds_setIfInBounds]
end
theorem grown_set1 {w0 w : World} {b : Nat} (h : w0.grownBy w (some b)) (i : Nat) (v : Value) : w0.grownBy (w.setCell ⟨b, i, none⟩ v) (some b) := grown_setCh h 0 i v

set_option maxHeartbeats 2000000 in
theorem turn_upd (b T ia ib ic id : Nat) (cs : Array Value) (A B D E : W32) (w : World) (hs : cs.size = 16)
    (hab : ia ≠ ib) (hac : ia ≠ ic) (had : ia ≠ id) (hbc : ib ≠ ic) (hbd : ib ≠ id) (hcd : ic ≠ id)
    (ha : ia < 16) (hb : ib < 16) (hc : ic < 16) (hd : id < 16) (hr : w.heap[b]? = some (.cells (updCh cs ia ib ic id A B D E) T (0, 0))) :
    Calls Try.prog 53 #[.pointer (some ⟨b, 0, none⟩), .int .i64 ia, .int .i64 ib, .int .i64 ic, .int .i64 id] w fun e w' => e = .returned (.tuple #[]) ∧ w.grownBy w' (some b) ∧ w'.heap[b]? = some (.cells (updCh cs ia ib ic id (qa A B D E) (qb A B D E) (qc A B D E) (qd A B D E)) T (0, 0)) := by
  have st : QSt b ia ib ic id w.heap.size T cs w (w.alloc (.cells #[.int .i64 16, .int .i64 8] 3 (0, 0))) A B D E :=
    ⟨hab, hac, had, hbc, hbd, hcd, by omega, by omega, by omega, by omega, by have := (Array.getElem?_eq_some_iff.1 hr).1; omega, ((MapKept.heap_alloc w _).2 b (Array.getElem?_eq_some_iff.1 hr).1).trans hr, (MapKept.heap_alloc w _).1, World.grownBy_alloc w _ _⟩
  have gl : b < w.heap.size := (Array.getElem?_eq_some_iff.1 hr).1
  have ca : w.cell? ⟨b, ia, none⟩ = some (.int .u32 (wv A)) := by rw [cell_of_row w b ia _ _ _ hr, ← cell_of_row _ b ia _ _ _ st.row]; exact st.cA
  have cb : w.cell? ⟨b, ib, none⟩ = some (.int .u32 (wv B)) := by rw [cell_of_row w b ib _ _ _ hr, ← cell_of_row _ b ib _ _ _ st.row]; exact st.cB
  have cc : w.cell? ⟨b, ic, none⟩ = some (.int .u32 (wv D)) := by rw [cell_of_row w b ic _ _ _ hr, ← cell_of_row _ b ic _ _ _ st.row]; exact st.cC
  have cd : w.cell? ⟨b, id, none⟩ = some (.int .u32 (wv E)) := by rw [cell_of_row w b id _ _ _ hr, ← cell_of_row _ b id _ _ _ st.row]; exact st.cD
  have fr : ∀ i, w.frozen? ⟨b, i, none⟩ = false := fun i => frozen_of_row w b i _ _ hr
  clear st
  have na : (0:Int) ≤ ia := by omega
  have nb : (0:Int) ≤ ib := by omega
  have nc : (0:Int) ≤ ic := by omega
  have nd : (0:Int) ≤ id := by omega
  have ja : (ia:Int) < 16 := by omega
  have jb : (ib:Int) < 16 := by omega
  have jc : (ic:Int) < 16 := by omega
  have jd : (id:Int) < 16 := by omega
  have HR := Lib.hid hr
  have HQ := Lib.hid (fun w => quarter_any A B D E w)
  clear hr
  generalize hx : qa A B D E = x at HQ ⊢
  generalize hy : qb A B D E = y at HQ ⊢
  generalize hz : qc A B D E = z at HQ ⊢
  generalize hv : qd A B D E = v at HQ ⊢
  clear hx hy hz hv
  go_enter Try.func53, Try.ntmps53
  go_wp2_with fail
  refine wp_region_any (by kernel_rfl) ?_
  change wpAny _ _ _ _ _ _ _ (World.drew _)
  refine wpAny_take_atCh (i := 0) (d := 11) (v := (.pointer (some ⟨b, 0, none⟩))) rfl (by kernel_rfl) (by kernel_rfl) (by kernel_rfl) (fun _ _ _ h => h) rfl (Or.inl ⟨by rfl, by intro w; go_simp⟩) ?_
  refine wpAny_take_atCh (i := 1) (d := 12) (v := (.int .i64 ia)) rfl (by kernel_rfl) (by kernel_rfl) (by kernel_rfl) (fun _ _ _ h => h) rfl (Or.inl ⟨by rfl, by intro w; go_simp⟩) ?_
  refine wpAny_take_atCh (i := 2) (d := 13) (v := (.pointer (some ⟨b, 0, none⟩))) rfl (by kernel_rfl) (by kernel_rfl) (by kernel_rfl) (fun _ _ _ h => h) rfl (Or.inl ⟨by rfl, by intro w; go_simp⟩) ?_
  refine wpAny_take_atCh (i := 3) (d := 14) (v := (.int .i64 ib)) rfl (by kernel_rfl) (by kernel_rfl) (by kernel_rfl) (fun _ _ _ h => h) rfl (Or.inl ⟨by rfl, by intro w; go_simp⟩) ?_
  refine wpAny_take_atCh (i := 4) (d := 15) (v := (.pointer (some ⟨b, 0, none⟩))) rfl (by kernel_rfl) (by kernel_rfl) (by kernel_rfl) (fun _ _ _ h => h) rfl (Or.inl ⟨by rfl, by intro w; go_simp⟩) ?_
  refine wpAny_take_atCh (i := 5) (d := 16) (v := (.int .i64 ic)) rfl (by kernel_rfl) (by kernel_rfl) (by kernel_rfl) (fun _ _ _ h => h) rfl (Or.inl ⟨by rfl, by intro w; go_simp⟩) ?_
  refine wpAny_take_atCh (i := 6) (d := 17) (v := (.pointer (some ⟨b, 0, none⟩))) rfl (by kernel_rfl) (by kernel_rfl) (by kernel_rfl) (fun _ _ _ h => h) rfl (Or.inl ⟨by rfl, by intro w; go_simp⟩) ?_
  refine wpAny_take_atCh (i := 7) (d := 18) (v := (.int .i64 id)) rfl (by kernel_rfl) (by kernel_rfl) (by kernel_rfl) (fun _ _ _ h => h) rfl (Or.inl ⟨by rfl, by intro w; go_simp⟩) ?_
  refine wpAny_take_atCh (i := 34) (d := 44) (v := (.pointer (some ⟨b, 0, none⟩))) rfl (by kernel_rfl) (by kernel_rfl) (by kernel_rfl) (fun _ _ _ h => h) rfl (Or.inl ⟨by rfl, by intro w; go_simp⟩) ?_
  refine wpAny_take_atCh (i := 37) (d := 46) (v := (.pointer (some ⟨b, 0, none⟩))) rfl (by kernel_rfl) (by kernel_rfl) (by kernel_rfl) (fun _ _ _ h => h) rfl (Or.inl ⟨by rfl, by intro w; go_simp⟩) ?_
  refine wpAny_take_atCh (i := 40) (d := 48) (v := (.pointer (some ⟨b, 0, none⟩))) rfl (by kernel_rfl) (by kernel_rfl) (by kernel_rfl) (fun _ _ _ h => h) rfl (Or.inl ⟨by rfl, by intro w; go_simp⟩) ?_
  refine wpAny_take_atCh (i := 43) (d := 50) (v := (.pointer (some ⟨b, 0, none⟩))) rfl (by kernel_rfl) (by kernel_rfl) (by kernel_rfl) (fun _ _ _ h => h) rfl (Or.inl ⟨by rfl, by intro w; go_simp⟩) ?_
  simp only [Act.put, List.setIfInBounds_toArray, List.set_cons_zero, List.set_cons_succ]
  refine wpAny_quiet_mid (fun w' => ∃ k, w' = w.drewN k) #[true, true, true, true, true, true, true, true, true, true, true, true, true, true, true, true, true, true, true, true, true, true, true, true, true, true, true, true, true, true, false, false, false, false, true, false, false, true, false, false, true, false, false, true, false, false] 8 22 12 (by kernel_rfl) (by kernel_rfl) (by kernel_rfl) (by kernel_rfl) rfl ⟨1, rfl⟩ ?_
  simp only [List.take_succ_cons, List.take_zero, List.drop_succ_cons, List.drop_zero]
  repeat (go_big_quiet_step ((go_at_call 18; exact Calls.quiet_of ((HQ.out _).mono (fun _ _ h => ⟨h.1, 0, h.2.symm⟩)))))
  refine wpQuiet_nil ?_
  intro _ hw'
  obtain ⟨k, hw''⟩ := hw'
  subst hw''
  refine wpAny_take_atCh (i := 30) (d := 40) (v := (.int .u32 (wv x))) rfl (by kernel_rfl) (by kernel_rfl) (by kernel_rfl) (fun _ _ _ h => h) rfl (Or.inl ⟨by rfl, by intro w; go_simp⟩) ?_
  refine wpAny_take_atCh (i := 31) (d := 41) (v := (.int .u32 (wv y))) rfl (by kernel_rfl) (by kernel_rfl) (by kernel_rfl) (fun _ _ _ h => h) rfl (Or.inl ⟨by rfl, by intro w; go_simp⟩) ?_
  refine wpAny_take_atCh (i := 32) (d := 42) (v := (.int .u32 (wv z))) rfl (by kernel_rfl) (by kernel_rfl) (by kernel_rfl) (fun _ _ _ h => h) rfl (Or.inl ⟨by rfl, by intro w; go_simp⟩) ?_
  refine wpAny_take_atCh (i := 33) (d := 43) (v := (.int .u32 (wv v))) rfl (by kernel_rfl) (by kernel_rfl) (by kernel_rfl) (fun _ _ _ h => h) rfl (Or.inl ⟨by rfl, by intro w; go_simp⟩) ?_
  refine wpAny_take_atCh (i := 35) (d := 45) (v := (.pointer (some ⟨b, ia, none⟩))) rfl (by kernel_rfl) (by kernel_rfl) (by kernel_rfl) (fun _ _ _ h => h) rfl (Or.inl ⟨by rfl, by intro w; go_simp⟩) ?_
  refine wpAny_ready (rs := [36]) (by kernel_rfl) (by simp) ?_
  refine AllReady.cons rfl (fun K hK => ?_) AllReady.nil
  go_simp
  refine hK _ _ ?_
  clear hK K
  refine wpAny_take_atCh (i := 38) (d := 47) (v := (.pointer (some ⟨b, ib, none⟩))) rfl (by kernel_rfl) (by kernel_rfl) (by kernel_rfl) (fun _ _ _ h => h) rfl (Or.inl ⟨by rfl, by intro w; go_simp⟩) ?_
  refine wpAny_ready (rs := [39]) (by kernel_rfl) (by simp) ?_
  refine AllReady.cons rfl (fun K hK => ?_) AllReady.nil
  go_simp
  refine hK _ _ ?_
  clear hK K
  refine wpAny_take_atCh (i := 41) (d := 49) (v := (.pointer (some ⟨b, ic, none⟩))) rfl (by kernel_rfl) (by kernel_rfl) (by kernel_rfl) (fun _ _ _ h => h) rfl (Or.inl ⟨by rfl, by intro w; go_simp⟩) ?_
  refine wpAny_ready (rs := [42]) (by kernel_rfl) (by simp) ?_
  refine AllReady.cons rfl (fun K hK => ?_) AllReady.nil
  go_simp
  refine hK _ _ ?_
  clear hK K
  refine wpAny_take_atCh (i := 44) (d := 51) (v := (.pointer (some ⟨b, id, none⟩))) rfl (by kernel_rfl) (by kernel_rfl) (by kernel_rfl) (fun _ _ _ h => h) rfl (Or.inl ⟨by rfl, by intro w; go_simp⟩) ?_
  refine wpAny_ready (rs := [45]) (by kernel_rfl) (by simp) ?_
  refine AllReady.cons rfl (fun K hK => ?_) AllReady.nil
  go_simp
  refine hK _ _ ?_
  clear hK K
  refine wpAny_done (by kernel_rfl) ?_ _
  refine bodyPost_end (results_none rfl _ _ _) rfl ⟨rfl, ?_, ?_⟩
  · exact grown_set1 (grown_set1 (grown_set1 (grown_setCh (World.grownBy.refl w (some b)) k ia _) ib _) ic _) id _
  · have h1 := row_setCh HR.out k ia (.int .u32 (wv x))
    have h2 := heap_setCell_same _ b ib _ T (.int .u32 (wv y)) h1
    have h3 := heap_setCell_same _ b ic _ T (.int .u32 (wv z)) h2
    have h4 := heap_setCell_same _ b id _ T (.int .u32 (wv v)) h3
    rw [updA hab hac had, updB hbc hbd, updC hcd, updD] at h4
    exact h4
end Go.Proofs.Ytkfacnegfkgcgaa

/-
  The rounds over a row of 16 words: chacha.turn and mailsackref05.quarter in one word.
-/
namespace Go.Proofs.Ytkfacnegfkgcgaa
open Go.RowKit MS

def rowWCh (s : Array W32) : Array Value := s.map (fun x => .int .u32 (wv x))
def qr (s : Array W32) (i j k l : Nat) : Array W32 :=
  (((s.setIfInBounds i (qa (s.getD i 0) (s.getD j 0) (s.getD k 0) (s.getD l 0))).setIfInBounds j (qb (s.getD i 0) (s.getD j 0) (s.getD k 0) (s.getD l 0))).setIfInBounds k (qc (s.getD i 0) (s.getD j 0) (s.getD k 0) (s.getD l 0))).setIfInBounds l (qd (s.getD i 0) (s.getD j 0) (s.getD k 0) (s.getD l 0))

theorem size_rowWCh (s : Array W32) : (rowWCh s).size = s.size := by simp [rowWCh]
theorem size_qr (s : Array W32) (i j k l : Nat) : (qr s i j k l).size = s.size := by simp [qr]
theorem rowW_setCh (s : Array W32) (i : Nat) (x : W32) : (rowWCh s).setIfInBounds i (.int .u32 (wv x)) = rowWCh (s.setIfInBounds i x) := by
  simp [rowWCh, Array.map_setIfInBounds]
theorem set_getD (s : Array W32) (i : Nat) : s.setIfInBounds i (s.getD i 0) = s := by
  apply Array.ext_getElem?
  intro j
  by_cases h : i = j
  · subst h
    by_cases hi : i < s.size
    · simp [hi]
    · simp [hi]
  · simp [h]
theorem upd_self (s : Array W32) (i j k l : Nat) : updCh (rowWCh s) i j k l (s.getD i 0) (s.getD j 0) (s.getD k 0) (s.getD l 0) = rowWCh s := by
  unfold updCh
  rw [rowW_setCh, set_getD, rowW_setCh, set_getD, rowW_setCh, set_getD, rowW_setCh, set_getD]
theorem upd_qr (s : Array W32) (i j k l : Nat) (a b c d : W32) : updCh (rowWCh s) i j k l a b c d = rowWCh ((((s.setIfInBounds i a).setIfInBounds j b).setIfInBounds k c).setIfInBounds l d) := by
  unfold updCh
  rw [rowW_setCh, rowW_setCh, rowW_setCh, rowW_setCh]

theorem turn16 (b T i j k l : Nat) (s : Array W32) (w : World) (hs : s.size = 16) (h : i ≠ j ∧ i ≠ k ∧ i ≠ l ∧ j ≠ k ∧ j ≠ l ∧ k ≠ l ∧ i < 16 ∧ j < 16 ∧ k < 16 ∧ l < 16) (hr : w.heap[b]? = some (.cells (rowWCh s) T (0, 0))) :
    Calls Try.prog 53 #[.pointer (some ⟨b, 0, none⟩), .int .i64 i, .int .i64 j, .int .i64 k, .int .i64 l] w fun e w' => e = .returned (.tuple #[]) ∧ w.grownBy w' (some b) ∧ w'.heap[b]? = some (.cells (rowWCh (qr s i j k l)) T (0, 0)) := by
  obtain ⟨h1, h2, h3, h4, h5, h6, h7, h8, h9, h10⟩ := h
  have := turn_upd b T i j k l (rowWCh s) (s.getD i 0) (s.getD j 0) (s.getD k 0) (s.getD l 0) w (by rw [size_rowWCh, hs]) h1 h2 h3 h4 h5 h6 h7 h8 h9 h10 (by rw [upd_self]; exact hr)
  rwa [upd_qr] at this

theorem rq16 (b C T i j k l : Nat) (s : Array W32) (w : World) (hs : s.size = 16) (h : i ≠ j ∧ i ≠ k ∧ i ≠ l ∧ j ≠ k ∧ j ≠ l ∧ k ≠ l ∧ i < 16 ∧ j < 16 ∧ k < 16 ∧ l < 16) (hr : w.heap[b]? = some (.cells (rowWCh s) T (0, 0))) :
    Calls Try.prog 34 #[.slice (some ⟨b, 0, none⟩) 16 C, .int .i64 i, .int .i64 j, .int .i64 k, .int .i64 l] w fun e w' => e = .returned (.tuple #[]) ∧ w.grownBy w' (some b) ∧ w'.heap[b]? = some (.cells (rowWCh (qr s i j k l)) T (0, 0)) := by
  obtain ⟨h1, h2, h3, h4, h5, h6, h7, h8, h9, h10⟩ := h
  have hz : (rowWCh s).size = 16 := by rw [size_rowWCh, hs]
  have := rq_any b C T i j k l (rowWCh s) (s.getD i 0) (s.getD j 0) (s.getD k 0) (s.getD l 0) w h1 h2 h3 h4 h5 h6 (by omega) (by omega) (by omega) (by omega) (by rw [upd_self]; exact hr)
  rw [hz, upd_qr] at this
  exact this

/-- A double round. -/
def dr (s : Array W32) : Array W32 :=
  qr (qr (qr (qr (qr (qr (qr (qr s 0 4 8 12) 1 5 9 13) 2 6 10 14) 3 7 11 15) 0 5 10 15) 1 6 11 12) 2 7 8 13) 3 4 9 14
theorem size_dr (s : Array W32) : (dr s).size = s.size := by simp only [dr, size_qr]
def drs : Nat → Array W32 → Array W32
  | 0, s => s
  | n + 1, s => dr (drs n s)
theorem size_drs (n : Nat) (s : Array W32) : (drs n s).size = s.size := by
  induction n with
  | zero => rfl
  | succ n ih => rw [drs, size_dr, ih]
end Go.Proofs.Ytkfacnegfkgcgaa

namespace Go.Proofs.Ytkfacnegfkgcgaa
open Go.RowKit MS
theorem run_index_rowCh (t : Array W32) (hz : t.size = 16) (j : Nat) (hj : j < 16) (w : World) : (Instr.index 53 (.agg (rowWCh t)) (.int .i64 j)).run Try.prog w = .ok (.int .u32 (wv (t.getD j 0))) w := by
  have hn : (0 : Int) ≤ j ∧ (j : Int) < 16 := by omega
  have hi : (Try.prog.info? 22).map (·.size) = some 1 := by kernel_rfl
  have hjt : j < t.size := by omega
  cases hq : Try.prog.info? 22 with
  | none => simp [hq] at hi
  | some i =>
    have hs : i.size = 1 := by simpa [hq] using hi
    simp [Instr.index, run_underlying Try.underlying53, asIntOf, go_sem, sizeOf, typeInfo, hq, hs, hn]
    have hx : (rowWCh t)[j]? = some (.int .u32 (wv (t.getD j 0))) := by simp [rowWCh, hjt]
    rw [if_pos hj, hx]
    simp [hjt]
end Go.Proofs.Ytkfacnegfkgcgaa

/-
  chacha.finish: the block of a state.
-/
namespace Go.Proofs.Ytkfacnegfkgcgaa
open Go.RowKit MS

/-- What is known of the world in the rounds: the state's row at B, the row that is turned at B + 2. -/
structure FSt (B : Nat) (w0 : World) (s t : Array W32) (w : World) : Prop where
  r0 : w.heap[B]? = some (.cells (rowWCh s) 53 (0, 0))
  r2 : w.heap[B + 2]? = some (.cells (rowWCh t) 53 (0, 0))
  r1 : w.heap[B + 1]? = some (.cells (Array.replicate 64 (.int .u8 0)) 56 (0, 0))
  bel : Below B w0 w

theorem FSt.step {B : Nat} {w0 w w' : World} {s t t' : Array W32} (h : FSt B w0 s t w) (hg : w.grownBy w' (some (B + 2))) (hr : w'.heap[B + 2]? = some (.cells (rowWCh t') 53 (0, 0))) : FSt B w0 s t' w' := by
  have l0 : B < w.heap.size := (Array.getElem?_eq_some_iff.1 h.r0).1
  have l1 : B + 1 < w.heap.size := (Array.getElem?_eq_some_iff.1 h.r1).1
  refine ⟨(hg.block B l0 (by simp)).trans h.r0, hr, (hg.block (B + 1) l1 (by simp)).trans h.r1, ?_⟩
  exact h.bel.grown hg (by omega) (by intro k e; cases e; omega)

theorem below_setRowCh {B g : Nat} {w0 w : World} (h : Below B w0 w) (hg : B ≤ g) (cs : Array Value) : Below B w0 (w.setRow g cs) :=
  ⟨h.os, h.tape, h.output, by simpa using h.size, fun k hk => by rw [setRow_other _ _ _ _ (by omega)]; exact h.block k hk⟩

theorem fst_start (w : World) (s : Array W32) :
    FSt w.heap.size w s s ((((w.alloc (.cells (rowWCh s) 53 (0, 0))).alloc (.cells (Array.replicate 64 (.int .u8 0)) 56 (0, 0))).alloc (.cells (Array.replicate 16 (.int .u32 0)) 53 (0, 0))).setRow (w.heap.size + 1 + 1) (rowWCh s)) := by
  have hw := Below.refl w.heap.size w
  generalize hX : Obj.cells (rowWCh s) 53 (0, 0) = X
  generalize hY : Obj.cells (Array.replicate 64 (.int .u8 0)) 56 (0, 0) = Y
  generalize hZ : Obj.cells (Array.replicate 16 (.int .u32 0)) 53 (0, 0) = Z
  have s1 : (w.alloc X).heap.size = w.heap.size + 1 := World.size_alloc _ _
  have s2 : ((w.alloc X).alloc Y).heap.size = w.heap.size + 1 + 1 := by rw [World.size_alloc, s1]
  have e0 : (w.alloc X).heap[w.heap.size]? = some X := (MapKept.heap_alloc w X).1
  have e1 : ((w.alloc X).alloc Y).heap[w.heap.size]? = some X := ((MapKept.heap_alloc (w.alloc X) Y).2 _ (by omega)).trans e0
  have e2 : (((w.alloc X).alloc Y).alloc Z).heap[w.heap.size]? = some X := ((MapKept.heap_alloc _ Z).2 _ (by omega)).trans e1
  have f1 : ((w.alloc X).alloc Y).heap[w.heap.size + 1]? = some Y := by rw [← s1]; exact (MapKept.heap_alloc _ Y).1
  have f2 : (((w.alloc X).alloc Y).alloc Z).heap[w.heap.size + 1]? = some Y := ((MapKept.heap_alloc _ Z).2 _ (by omega)).trans f1
  have g2 : (((w.alloc X).alloc Y).alloc Z).heap[w.heap.size + 1 + 1]? = some Z := by rw [← s2]; exact (MapKept.heap_alloc _ Z).1
  have b3 : Below w.heap.size w (((w.alloc X).alloc Y).alloc Z) := below_alloc (below_alloc (below_alloc hw _) _) _
  subst hX hY hZ
  exact ⟨by rw [setRow_other _ _ _ _ (by omega)]; exact e2, setRow_heap _ _ _ _ _ _ g2, by rw [setRow_other _ _ _ _ (by omega)]; exact f2, below_setRowCh b3 (by omega) _⟩

/-- The row of bytes behind i words. -/
def ob (x : W32) : Nat → Value
  | 0 => .int .u8 (wv x % 256)
  | 1 => .int .u8 (wv x / 256 % 256)
  | 2 => .int .u8 (wv x / 65536 % 256)
  | _ => .int .u8 (wv x / 16777216 % 256)
def zz (t s : Array W32) (i : Nat) : W32 := t.getD i 0 + s.getD i 0
def orow (z : Nat → W32) : Nat → Array Value
  | 0 => Array.replicate 64 (.int .u8 0)
  | i + 1 => ((((orow z i).setIfInBounds (4 * i) (ob (z i) 0)).setIfInBounds (4 * i + 1) (ob (z i) 1)).setIfInBounds (4 * i + 2) (ob (z i) 2)).setIfInBounds (4 * i + 3) (ob (z i) 3)
theorem size_orow (z : Nat → W32) (i : Nat) : (orow z i).size = 64 := by
  induction i with
  | zero => rfl
  | succ i ih => simp [orow, ih]

theorem all_orow (z : Nat → W32) (i : Nat) : (orow z i).all (·.oneCell') = true := by
  rw [Array.all_eq_true_iff_forall_mem]
  induction i with
  | zero => intro v hv; rw [orow, Array.mem_replicate] at hv; rw [hv.2]; rfl
  | succ i ih =>
    intro v hv
    have hs : ∀ (A : Array Value) (p : Nat) (u : Value), (∀ v ∈ A, v.oneCell' = true) → u.oneCell' = true → ∀ v ∈ A.setIfInBounds p u, v.oneCell' = true := by
      intro A p u hA hu v hv
      rcases Array.mem_or_eq_of_mem_setIfInBounds hv with h | h
      · exact hA v h
      · rw [h]; exact hu
    exact hs _ _ _ (hs _ _ _ (hs _ _ _ (hs _ _ _ ih rfl) rfl) rfl) rfl v hv

def blk (s : Array W32) : Array Value := orow (zz (drs 10 s) s) 16
structure OSt (B O : Nat) (w0 : World) (s : Array W32) (row : Array Value) (w : World) : Prop where
  lt : B + 2 < O
  r0 : w.heap[B]? = some (.cells (rowWCh s) 53 (0, 0))
  r1 : w.heap[B + 1]? = some (.cells (Array.replicate 64 (.int .u8 0)) 56 (0, 0))
  ro : w.heap[O]? = some (.cells row 56 (0, 0))
  sz : row.size = 64
  bel : Below B w0 w

theorem OSt.set {B O : Nat} {w0 w : World} {s : Array W32} {row : Array Value} (h : OSt B O w0 s row w) (p : Nat) (v : Value) : OSt B O w0 s (row.setIfInBounds p v) (w.setCell ⟨O, p, none⟩ v) := by
  have hl := h.lt
  refine ⟨hl, ?_, ?_, heap_setCell_same w O p row _ v h.ro, by simp [h.sz], h.bel.setCell (by simp; omega) _⟩
  · rw [heap_setCell_other _ _ _ _ (by simp; omega)]; exact h.r0
  · rw [heap_setCell_other _ _ _ _ (by simp; omega)]; exact h.r1
theorem OSt.cell {B O : Nat} {w0 w : World} {s : Array W32} {row : Array Value} (h : OSt B O w0 s row w) (p : Nat) (hp : p < 64) : ∃ u, w.cell? ⟨O, p, none⟩ = some u := by
  rw [cell_of_row w O p _ _ _ h.ro]
  have : p < row.size := by rw [h.sz]; exact hp
  exact ⟨row[p], by simp [this]⟩
theorem OSt.word {B O : Nat} {w0 w : World} {s : Array W32} {row : Array Value} (h : OSt B O w0 s row w) (i : Nat) (hi : i < s.size) : w.cell? ⟨B, i, none⟩ = some (.int .u32 (wv (s.getD i 0))) := by
  rw [cell_of_row w B i _ _ _ h.r0]
  simp [rowWCh, hi]

attribute [local go_sem] w_add
set_option maxRecDepth 100000 in
set_option maxHeartbeats 1000000 in
theorem finish_anyCh (s : Array W32) (w : World) (hs : s.size = 16) :
    Calls Try.prog 36 #[.agg (rowWCh s)] w fun e w' => e = .returned (.agg (blk s)) ∧ Below w.heap.size w w' := by
  have HS := Lib.hid hs
  have hz : (rowWCh s).size = 16 := by rw [size_rowWCh, hs]
  have h1c : (rowWCh s).all (·.oneCell') = true := by simp [rowWCh, Value.oneCell']
  have hi : (Try.prog.info? 53).map (·.size) = some (rowWCh s).size := by rw [hz]; kernel_rfl
  have HL := Lib.hid (fun X => ((MapKept.heap_alloc (w.alloc (.cells (rowWCh s) 53 (0, 0))) X).2 w.heap.size (by simp)).trans (MapKept.heap_alloc w (.cells (rowWCh s) 53 (0, 0))).1)
  have HZ := Lib.hid hz
  have HI := Lib.hid hi
  have HO := Lib.hid h1c
  have HA := Lib.hid (fun (v : World) (X : Obj) => (MapKept.heap_alloc v X).1)
  have HE := Lib.hid (fun X Y => show ((w.alloc X).alloc Y).heap.size = w.heap.size + 1 + 1 by simp)
  have HF := Lib.hid (fst_start w s)
  clear hs hz h1c hi
  go_enter Try.func36, Try.ntmps36
  go_wp2_with (first
    | (with_reducible refine wpList_load_row rfl 53 (.tmp 1) rfl w.heap.size rfl 53 (rowWCh s) (0, 0) _ (HL.out _) Try.underlying53 rfl HI.out ?_)
    | (with_reducible refine wpList_store_row rfl 53 (.tmp 3) (.tmp 8) rfl (w.heap.size + 1 + 1) (rowWCh s) rfl rfl 53 (Array.replicate 16 (.int .u32 0)) ?hg HI.out ?hl HO.out ?_))
  case hg => exact (congrArg (fun n => (World.heap _)[n]?) (HE.out _ _).symm).trans (HA.out _ _)
  case hl => rw [HZ.out]; rfl
  generalize hW : World.setRow (World.alloc _ _) _ _ = w3
  have st : FSt w.heap.size w s (drs 0 s) w3 := by
    subst hW
    exact HF.out
  clear hW
  go_loopw [9] (fun i wr => ∃ k : Nat, k ≤ 10 ∧ i = .int .i64 k ∧ FSt w.heap.size w s (drs k s) wr) (fun i _ => 10 - (intOf i).toNat)
  case atStart => exact ⟨0, by omega, rfl, st⟩
  case round =>
    obtain ⟨k, hk, rfl, st0⟩ := hrel
    have ht := (size_drs k s).trans HS.out
    generalize hT : drs k s = t0 at st0 ht
    have HT := Lib.hid hT
    have HS0 := Lib.hid ht
    have HI0 := Lib.hid (show (Try.prog.info? 53).map (·.size) = some (rowWCh t0).size by rw [size_rowWCh, ht]; kernel_rfl)
    have HL0 := Lib.hid (fun X => ((MapKept.heap_alloc wr X).2 (w.heap.size + 1 + 1) (Array.getElem?_eq_some_iff.1 st0.r2).1).trans st0.r2)
    clear hT ht st
    go_wp2_with (with_reducible refine wpList_load_row rfl 53 (.tmp 3) rfl (w.heap.size + 1 + 1) rfl 53 (rowWCh t0) (0, 0) _ (HL0.out _) Try.underlying53 rfl HI0.out ?_)
    · have hk1 : k < 10 := by omega
      refine (turn16 (w.heap.size + 1 + 1) 53 0 4 8 12 t0 _ HS0.out (by decide) st0.r2).mono ?_
      rintro e w0 ⟨rfl, hg, hr⟩
      have st1 := st0.step hg hr
      have HS1 := Lib.hid ((size_qr t0 0 4 8 12).trans HS0.out)
      clear hg hr st0
      generalize hq0 : qr t0 0 4 8 12 = t1 at st1 HS1
      have HQ0 := Lib.hid hq0
      clear hq0
      go_wp2_with fail
      refine (turn16 (w.heap.size + 1 + 1) 53 1 5 9 13 t1 _ HS1.out (by decide) st1.r2).mono ?_
      rintro e w1 ⟨rfl, hg, hr⟩
      have st2 := st1.step hg hr
      have HS2 := Lib.hid ((size_qr t1 1 5 9 13).trans HS1.out)
      clear hg hr st1
      generalize hq1 : qr t1 1 5 9 13 = t2 at st2 HS2
      have HQ1 := Lib.hid hq1
      clear hq1
      go_wp2_with fail
      refine (turn16 (w.heap.size + 1 + 1) 53 2 6 10 14 t2 _ HS2.out (by decide) st2.r2).mono ?_
      rintro e w2 ⟨rfl, hg, hr⟩
      have st3 := st2.step hg hr
      have HS3 := Lib.hid ((size_qr t2 2 6 10 14).trans HS2.out)
      clear hg hr st2
      generalize hq2 : qr t2 2 6 10 14 = t3 at st3 HS3
      have HQ2 := Lib.hid hq2
      clear hq2
      go_wp2_with fail
      refine (turn16 (w.heap.size + 1 + 1) 53 3 7 11 15 t3 _ HS3.out (by decide) st3.r2).mono ?_
      rintro e w3 ⟨rfl, hg, hr⟩
      have st4 := st3.step hg hr
      have HS4 := Lib.hid ((size_qr t3 3 7 11 15).trans HS3.out)
      clear hg hr st3
      generalize hq3 : qr t3 3 7 11 15 = t4 at st4 HS4
      have HQ3 := Lib.hid hq3
      clear hq3
      go_wp2_with fail
      refine (turn16 (w.heap.size + 1 + 1) 53 0 5 10 15 t4 _ HS4.out (by decide) st4.r2).mono ?_
      rintro e w4 ⟨rfl, hg, hr⟩
      have st5 := st4.step hg hr
      have HS5 := Lib.hid ((size_qr t4 0 5 10 15).trans HS4.out)
      clear hg hr st4
      generalize hq4 : qr t4 0 5 10 15 = t5 at st5 HS5
      have HQ4 := Lib.hid hq4
      clear hq4
      go_wp2_with fail
      refine (turn16 (w.heap.size + 1 + 1) 53 1 6 11 12 t5 _ HS5.out (by decide) st5.r2).mono ?_
      rintro e w5 ⟨rfl, hg, hr⟩
      have st6 := st5.step hg hr
      have HS6 := Lib.hid ((size_qr t5 1 6 11 12).trans HS5.out)
      clear hg hr st5
      generalize hq5 : qr t5 1 6 11 12 = t6 at st6 HS6
      have HQ5 := Lib.hid hq5
      clear hq5
      go_wp2_with fail
      refine (turn16 (w.heap.size + 1 + 1) 53 2 7 8 13 t6 _ HS6.out (by decide) st6.r2).mono ?_
      rintro e w6 ⟨rfl, hg, hr⟩
      have st7 := st6.step hg hr
      have HS7 := Lib.hid ((size_qr t6 2 7 8 13).trans HS6.out)
      clear hg hr st6
      generalize hq6 : qr t6 2 7 8 13 = t7 at st7 HS7
      have HQ6 := Lib.hid hq6
      clear hq6
      go_wp2_with fail
      refine (turn16 (w.heap.size + 1 + 1) 53 3 4 9 14 t7 _ HS7.out (by decide) st7.r2).mono ?_
      rintro e w7 ⟨rfl, hg, hr⟩
      have st8 := st7.step hg hr
      have HS8 := Lib.hid ((size_qr t7 3 4 9 14).trans HS7.out)
      clear hg hr st7
      generalize hq7 : qr t7 3 4 9 14 = t8 at st8 HS8
      have HQ7 := Lib.hid hq7
      clear hq7
      go_wp2_with fail
      go_roundw
      case rel =>
        refine ⟨k + 1, by omega, by go_num, ?_⟩
        rw [drs, HT.out, dr, HQ0.out, HQ1.out, HQ2.out, HQ3.out, HQ4.out, HQ5.out, HQ6.out, HQ7.out]
        exact st8
      case measure => simp [intOf]; omega
    · have so : OSt w.heap.size wr.heap.size w s (orow (zz t0 s) 0) (wr.alloc (.cells (Array.replicate 64 (.int .u8 0)) 56 (0, 0))) := by
        have l2 : w.heap.size + 2 < wr.heap.size := (Array.getElem?_eq_some_iff.1 st0.r2).1
        have l1 : w.heap.size + 1 < wr.heap.size := by omega
        have l0 : w.heap.size < wr.heap.size := by omega
        exact ⟨l2, ((MapKept.heap_alloc wr _).2 _ l0).trans st0.r0, ((MapKept.heap_alloc wr _).2 _ l1).trans st0.r1, (MapKept.heap_alloc wr _).1, by simp [orow], below_alloc st0.bel _⟩
      generalize hO : wr.heap.size = O at so ⊢
      clear hO st0 HL0
      go_loopw [21] (fun i wr => ∃ i' : Nat, i' ≤ 16 ∧ i = .int .i64 i' ∧ OSt w.heap.size O w s (orow (zz t0 s) i') wr) (fun i _ => 16 - (intOf i).toNat)
      case atStart => exact ⟨0, by omega, rfl, so⟩
      case round =>
        obtain ⟨j, hj, rfl, so0⟩ := hrel
        clear so
        by_cases hlt : j < 16
        · have ji : (j : Int) < 16 := by omega
          have jn : (0 : Int) ≤ j := by omega
          have hc := so0.word j (by rw [HS.out]; exact hlt)
          have hix := fun w => run_index_rowCh t0 HS0.out j hlt w
          generalize hsj : s.getD j 0 = sj at hc
          have HSJ := Lib.hid hsj
          clear hsj
          generalize htj : t0.getD j 0 = tj at hix
          have HTJ := Lib.hid htj
          clear htj
          go_wp2_with fail
          refine wp_loop_rounds 5 ?_
          obtain ⟨u, cu⟩ := so0.cell (4 * j) (by omega)
          have fu := frozen_of_row _ O (4 * j) _ _ so0.ro
          have jb0 : ((4 * j + 0 : Nat) : Int) < 64 := by omega
          rw [rounds_succ]
          go_wp2_with fail
          have so1 := so0.set (4 * j) (.int .u8 (wv (tj + sj) % 256))
          generalize World.setCell _ _ _ = wn0 at so1 ⊢
          clear cu fu jb0 so0
          obtain ⟨u, cu⟩ := so1.cell (4 * j + 1) (by omega)
          have fu := frozen_of_row _ O (4 * j + 1) _ _ so1.ro
          have jb1 : ((4 * j + 1 : Nat) : Int) < 64 := by omega
          rw [rounds_succ]
          go_wp2_with fail
          have so2 := so1.set (4 * j + 1) (.int .u8 (wv (tj + sj) / 256 % 256))
          generalize World.setCell _ _ _ = wn1 at so2 ⊢
          clear cu fu jb1 so1
          obtain ⟨u, cu⟩ := so2.cell (4 * j + 2) (by omega)
          have fu := frozen_of_row _ O (4 * j + 2) _ _ so2.ro
          have jb2 : ((4 * j + 2 : Nat) : Int) < 64 := by omega
          rw [rounds_succ]
          go_wp2_with fail
          have so3 := so2.set (4 * j + 2) (.int .u8 (wv (tj + sj) / 65536 % 256))
          generalize World.setCell _ _ _ = wn2 at so3 ⊢
          clear cu fu jb2 so2
          obtain ⟨u, cu⟩ := so3.cell (4 * j + 3) (by omega)
          have fu := frozen_of_row _ O (4 * j + 3) _ _ so3.ro
          have jb3 : ((4 * j + 3 : Nat) : Int) < 64 := by omega
          rw [rounds_succ]
          go_wp2_with fail
          have so4 := so3.set (4 * j + 3) (.int .u8 (wv (tj + sj) / 16777216 % 256))
          generalize World.setCell _ _ _ = wn3 at so4 ⊢
          clear cu fu jb3 so3
          rw [rounds_succ]
          go_wp2_with fail
          go_roundw
          case rel =>
            refine ⟨j + 1, by omega, by go_num, ?_⟩
            have hz : zz t0 s j = tj + sj := by rw [← HSJ.out, ← HTJ.out]; rfl
            rw [orow, hz]
            exact so4
          case measure => simp [intOf]; omega
        · have hj16 : j = 16 := by omega
          subst hj16
          have HSZ := size_orow (zz t0 s) 16
          have HOC : (orow (zz t0 s) 16).all (·.oneCell') = true := all_orow _ _
          have HR := so0.ro
          have HR1 := so0.r1
          generalize hrow : orow (zz t0 s) 16 = row at so0 HSZ HOC HR
          have HROW := Lib.hid hrow
          clear hrow
          have HSZ' := Lib.hid HSZ
          have HOC' := Lib.hid HOC
          have HR' := Lib.hid HR
          have HR1' := Lib.hid HR1
          have HI5 := Lib.hid (show (Try.prog.info? 56).map (·.size) = some row.size by rw [HSZ]; kernel_rfl)
          have HSO := Lib.hid so0
          have HL5 := Lib.hid (show (Array.replicate 64 (Value.int .u8 0)).size = row.size by rw [HSZ]; rfl)
          clear HSZ HOC HR HR1 so0
          go_wp2_with (first
            | (with_reducible refine wpList_load_row rfl 56 (.tmp 4) rfl O rfl 56 row (0, 0) _ HR'.out Try.underlying56 rfl HI5.out ?_)
            | (with_reducible refine wpList_store_row rfl 56 (.tmp 2) (.tmp 45) rfl (w.heap.size + 1) row rfl rfl 56 (Array.replicate 64 (.int .u8 0)) HR1'.out HI5.out HL5.out HOC'.out ?_))
          have hk10 : k = 10 := by omega
          have hres : row = blk s := by rw [← HROW.out, ← HT.out, hk10]; rfl
          have hO := HSO.out.lt
          refine bodyPost_ret (results_cell_row rfl _ _ (w.heap.size + 1) 56 row (0, 0) _ rfl (setRow_heap _ _ _ _ _ _ HR1'.out) Try.underlying56 rfl HI5.out) rfl ⟨by rw [hres], ?_⟩
          exact below_setRowCh HSO.out.bel (by omega) _
end Go.Proofs.Ytkfacnegfkgcgaa

/-
  chacha.fill: words from four bytes each.
-/
namespace Go.Proofs.Ytkfacnegfkgcgaa
open Go.RowKit MS

/-- Byte p of a text, as a number. -/
def byt (s : ByteArray) (p : Nat) : Nat := (s.data.toList.getD p 0).toNat
def leW (s : ByteArray) (i : Nat) : W32 := BitVec.ofNat 32 (byt s (4 * i) + 256 * byt s (4 * i + 1) + 65536 * byt s (4 * i + 2) + 16777216 * byt s (4 * i + 3))
def fillRow (cs : Array Value) (o : Nat) (s : ByteArray) : Nat → Array Value
  | 0 => cs
  | i + 1 => (fillRow cs o s i).setIfInBounds (o + i) (.int .u32 (wv (leW s i)))
theorem size_fillRow (cs : Array Value) (o : Nat) (s : ByteArray) (n : Nat) : (fillRow cs o s n).size = cs.size := by
  induction n with
  | zero => rfl
  | succ n ih => simp [fillRow, ih]

theorem ext4Ch (s : ByteArray) (j : Nat) (h : 4 * j + 4 ≤ s.size) : s.extract (4 * j) (4 * j + 4) = ByteArray.mk #[s.data.toList.getD (4 * j) 0, s.data.toList.getD (4 * j + 1) 0, s.data.toList.getD (4 * j + 2) 0, s.data.toList.getD (4 * j + 3) 0] := by
  apply ls_inj
  rw [ls_extract]
  have hl : s.data.toList.length = s.size := by simp
  show ((s.data.toList).drop (4 * j)).take (4 * j + 4 - 4 * j) = [_, _, _, _]
  generalize s.data.toList = l at hl
  rw [show 4 * j + 4 - 4 * j = 4 by omega]
  apply List.ext_getElem
  · simp; omega
  · intro i h1 h2
    simp at h1
    have h4 : i < 4 := by omega
    have hi : 4 * j + i < l.length := by omega
    match i, h4 with
    | 0, _ => simp [show 4 * j < l.length by omega]
    | 1, _ => simp [show 4 * j + 1 < l.length by omega]
    | 2, _ => simp [show 4 * j + 2 < l.length by omega]
    | 3, _ => simp [show 4 * j + 3 < l.length by omega]

theorem or_mulCh (a b k : Nat) (h : a < 2 ^ k) : a ||| b * 2 ^ k = b * 2 ^ k + a := by
  rw [Nat.or_comm, ← Nat.shiftLeft_eq, Nat.shiftLeft_add_eq_or_of_lt h]
theorem le_or4 (a b c d : Nat) (ha : a < 2 ^ 8) (hb : b < 2 ^ 8) (hc : c < 2 ^ 8) (hd : d < 2 ^ 8) :
    bits .or .u32 (bits .or .u32 (bits .or .u32 ((a : Int) % 4294967296) ((b : Int) % 4294967296 * 256 % 4294967296)) ((c : Int) % 4294967296 * 65536 % 4294967296)) ((d : Int) % 4294967296 * 16777216 % 4294967296)
      = wv (BitVec.ofNat 32 (a + 256 * b + 65536 * c + 16777216 * d)) := by
  have ha' : a < 256 := ha
  have hb' : b < 256 := hb
  have hc' : c < 256 := hc
  have hd' : d < 256 := hd
  clear ha hb hc hd
  have bound : ∀ x y m : Nat, x < 256 → y < m → x * m + y < 256 * m := fun x y m hx hy =>
    Nat.lt_of_lt_of_le (show x * m + y < (x + 1) * m by rw [Nat.succ_mul]; exact Nat.add_lt_add_left hy _) (Nat.mul_le_mul_right _ hx)
  have l1 : b * 256 + a < 65536 := bound b a 256 hb' ha'
  have l2 : c * 65536 + (b * 256 + a) < 16777216 := bound c _ 65536 hc' l1
  have l4 : d * 16777216 + (c * 65536 + (b * 256 + a)) < 4294967296 := bound d _ 16777216 hd' l2
  have es : a + 256 * b + 65536 * c + 16777216 * d = d * 16777216 + (c * 65536 + (b * 256 + a)) := by clear l1 l2 l4; omega
  have l3 : a + 256 * b + 65536 * c + 16777216 * d < 4294967296 := by rw [es]; exact l4
  have k1 : a < 4294967296 := Nat.lt_trans ha' (by decide)
  have k3 : b * 256 + a < 4294967296 := Nat.lt_trans l1 (by decide)
  have k2 : b * 256 < 4294967296 := Nat.lt_of_le_of_lt (Nat.le_add_right _ _) k3
  have k5 : c * 65536 + (b * 256 + a) < 4294967296 := Nat.lt_trans l2 (by decide)
  have k4 : c * 65536 < 4294967296 := Nat.lt_of_le_of_lt (Nat.le_add_right _ _) k5
  have k6 : d * 16777216 < 4294967296 := Nat.lt_of_le_of_lt (Nat.le_add_right _ _) l4
  have e0 : (a : Int) % 4294967296 = ((a : Nat) : Int) := by clear l1 l2 l3 l4 es k2 k3 k4 k5 k6 bound; omega
  have e1 : (b : Int) % 4294967296 * 256 % 4294967296 = ((b * 256 : Nat) : Int) := by clear l1 l2 l3 l4 es k1 k2 k3 k4 k5 k6 e0 bound; omega
  have e2 : (c : Int) % 4294967296 * 65536 % 4294967296 = ((c * 65536 : Nat) : Int) := by clear l1 l2 l3 l4 es k1 k2 k3 k4 k5 k6 e0 e1 bound; omega
  have e3 : (d : Int) % 4294967296 * 16777216 % 4294967296 = ((d * 16777216 : Nat) : Int) := by clear l1 l2 l3 l4 es k1 k2 k3 k4 k5 k6 e0 e1 e2 bound; omega
  rw [e0, e1, e2, e3, u32_or_nat _ _ k1 k2, or_mulCh a b 8 ha', u32_or_nat _ _ k3 k4, or_mulCh (b * 256 + a) c 16 l1, u32_or_nat _ _ k5 k6, or_mulCh (c * 65536 + (b * 256 + a)) d 24 l2]
  unfold wv
  rw [BitVec.toNat_ofNat, Nat.mod_eq_of_lt l3]
  rw [es]
theorem le_or4q (x0 x1 x2 x3 : UInt8) (h0 : 0 < (ByteArray.mk #[x0, x1, x2, x3]).size) (h1 : 1 < (ByteArray.mk #[x0, x1, x2, x3]).size) (h2 : 2 < (ByteArray.mk #[x0, x1, x2, x3]).size) (h3 : 3 < (ByteArray.mk #[x0, x1, x2, x3]).size) :
    bits .or .u32 (bits .or .u32 (bits .or .u32 (((ByteArray.mk #[x0, x1, x2, x3])[0]'h0).toNat % 4294967296) ((((ByteArray.mk #[x0, x1, x2, x3])[1]'h1).toNat : Int) % 4294967296 * 256 % 4294967296)) ((((ByteArray.mk #[x0, x1, x2, x3])[2]'h2).toNat : Int) % 4294967296 * 65536 % 4294967296)) ((((ByteArray.mk #[x0, x1, x2, x3])[3]'h3).toNat : Int) % 4294967296 * 16777216 % 4294967296)
      = wv (BitVec.ofNat 32 (x0.toNat + 256 * x1.toNat + 65536 * x2.toNat + 16777216 * x3.toNat)) :=
  le_or4 x0.toNat x1.toNat x2.toNat x3.toNat x0.toNat_lt x1.toNat_lt x2.toNat_lt x3.toNat_lt

set_option maxRecDepth 100000 in
set_option maxHeartbeats 1000000 in
theorem fill_any (b o n c T : Nat) (cs : Array Value) (s : ByteArray) (w : World) (ho : o + n ≤ cs.size) (hs : 4 * n ≤ s.size) (hn : n < 1000) (hr : w.heap[b]? = some (.cells cs T (0, 0))) :
    Calls Try.prog 52 #[.slice (some ⟨b, o, none⟩) n c, .string s] w fun e w' => e = .returned (.tuple #[]) ∧ w.grownBy w' (some b) ∧ w'.heap[b]? = some (.cells (fillRow cs o s n) T (0, 0)) := by
  have HR := Lib.hid hr
  have HO := Lib.hid ho
  have HS := Lib.hid hs
  have HN := Lib.hid hn
  clear hr ho hs hn
  go_enter Try.func52, Try.ntmps52
  go_wp2_with fail
  go_loopw [8] (fun i wr => ∃ i' : Nat, i' ≤ n ∧ i = .int .i64 i' ∧ w.grownBy wr (some b) ∧ wr.heap[b]? = some (.cells (fillRow cs o s i') T (0, 0))) (fun i _ => n - (intOf i).toNat)
  case atStart => exact ⟨0, by omega, rfl, World.grownBy.refl w _, HR.out⟩
  case round =>
    obtain ⟨j, hj, rfl, hg, hr⟩ := hrel
    have HG := Lib.hid hg
    have HR2 := Lib.hid hr
    clear hg hr
    by_cases hlt : j < n
    · have jn : (0 : Int) ≤ j := by omega
      have ji : (j : Int) < n := by omega
      have b1 := HS.out
      have b2 := HN.out
      have h1 : (4 : Int) * j + 4 ≤ s.size := by omega
      have h2 : (4 : Int) * j ≤ 4 * j + 4 := by omega
      clear b1
      go_wp2_with fail
      have hq := ext4Ch s j (by have := HS.out; omega)
      generalize hx0 : s.data.toList.getD (4 * j) 0 = x0 at hq
      have HX0 := Lib.hid hx0
      clear hx0
      generalize hx1 : s.data.toList.getD (4 * j + 1) 0 = x1 at hq
      have HX1 := Lib.hid hx1
      clear hx1
      generalize hx2 : s.data.toList.getD (4 * j + 2) 0 = x2 at hq
      have HX2 := Lib.hid hx2
      clear hx2
      generalize hx3 : s.data.toList.getD (4 * j + 3) 0 = x3 at hq
      have HX3 := Lib.hid hx3
      clear hx3
      rw [hq]
      clear hq
      refine wp_region_draws_tail 20 (by kernel_rfl) (by kernel_rfl) ?_
      simp only [List.take_succ_cons, List.take_zero, List.drop_succ_cons, List.drop_zero]
      repeat (go_big_quiet_step (fail))
      refine wpQuiet_nil ?_
      intro _ hw'
      obtain ⟨k, hw''⟩ := hw'
      subst hw''
      rw [le_or4q x0 x1 x2 x3]
      generalize hV : BitVec.ofNat 32 _ = V
      have hVL : leW s j = V := by rw [← hV, leW, byt, byt, byt, byt, HX0.out, HX1.out, HX2.out, HX3.out]
      have hjs : o + j < (fillRow cs o s j).size := by rw [size_fillRow]; have := HO.out; omega
      have hc : wr.cell? ⟨b, o + j, none⟩ = some ((fillRow cs o s j)[o + j]'hjs) := by rw [cell_of_row wr b (o + j) _ _ _ HR2.out]; simp [hjs]
      have hf := frozen_of_row wr b (o + j) _ _ HR2.out
      generalize (fillRow cs o s j)[o + j]'hjs = u at hc
      have HV := Lib.hid hVL
      clear hV hVL hjs
      go_wp2_with fail
      go_roundw
      case rel =>
        refine ⟨j + 1, by omega, by go_num, grown_setCh HG.out k (o + j) _, ?_⟩
        rw [fillRow, HV.out]
        exact row_setCh HR2.out k (o + j) _
      case measure => simp [intOf]; omega
    · go_wp2_with fail
      have : j = n := by omega
      subst this
      refine bodyPost_end (results_none rfl _ _ _) rfl ⟨rfl, HG.out, HR2.out⟩
end Go.Proofs.Ytkfacnegfkgcgaa

/-
  mailsackref05.word: four bytes, the lowest first.
-/
namespace Go.Proofs.Ytkfacnegfkgcgaa
open Go.RowKit MS

theorem sum_le4 (a b c d : Nat) (hb : b < 256) (hc : c < 256) (hd : d < 256) :
    ((((a : Int) + 256 * ((b : Int) % 4294967296) + 65536 * ((c : Int) % 4294967296)) % 4294967296 + 16777216 * ((d : Int) % 4294967296) % 4294967296) % 4294967296) = wv (BitVec.ofNat 32 (a + 256 * b + 65536 * c + 16777216 * d)) := by
  unfold wv
  rw [BitVec.toNat_ofNat, Int.natCast_emod]
  have e : ((a + 256 * b + 65536 * c + 16777216 * d : Nat) : Int) = (a : Int) + 256 * b + 65536 * c + 16777216 * d := by
    rw [Int.natCast_add, Int.natCast_add, Int.natCast_add, Int.natCast_mul, Int.natCast_mul, Int.natCast_mul]; rfl
  rw [e]
  have hb' : (b : Int) % 4294967296 = b := Int.emod_eq_of_lt (by omega) (by omega)
  have hc' : (c : Int) % 4294967296 = c := Int.emod_eq_of_lt (by omega) (by omega)
  have hd' : (d : Int) % 4294967296 = d := Int.emod_eq_of_lt (by omega) (by omega)
  rw [hb', hc', hd', ← Int.add_emod]
  rfl
theorem byt_get (s : ByteArray) (p : Nat) (h : p < s.size) : byt s p = (s[p]'h).toNat := by
  have hl : p < s.data.toList.length := by simpa using h
  unfold byt
  rw [List.getD_eq_getElem?_getD, List.getElem?_eq_getElem hl]
  rfl

set_option maxHeartbeats 400000 in
theorem word_any (s : ByteArray) (i : Nat) (h : 4 * i + 4 ≤ s.size) (hi : i < 1000) (w : World) :
    Calls Try.prog 37 #[.string s, .int .i64 (4 * (i : Int))] w fun e w' => e = .returned (.int .u32 (wv (leW s i))) ∧ ∃ k, w' = w.drewN k := by
  have j0 : (0 : Int) ≤ 4 * (i : Int) := by omega
  have j1 : (0 : Int) ≤ 4 * (i : Int) + 1 := by omega
  have j2 : (0 : Int) ≤ 4 * (i : Int) + 2 := by omega
  have j3 : (0 : Int) ≤ 4 * (i : Int) + 3 := by omega
  have l0 : 4 * (i : Int) < s.size := by omega
  have l1 : 4 * (i : Int) + 1 < s.size := by omega
  have l2 : 4 * (i : Int) + 2 < s.size := by omega
  have l3 : 4 * (i : Int) + 3 < s.size := by omega
  have ib : (i : Int) < 1000 := by omega
  have H := Lib.hid h
  have HI := Lib.hid hi
  clear h hi
  go_enter Try.func37, Try.ntmps37
  go_wp2
  go_quiet (fail)
  go_wp2
  go_ret
  refine ⟨?_, _, rfl⟩
  have h := H.out
  have z := sum_le4 (s[4 * i]'(by omega)).toNat (s[4 * i + 1]'(by omega)).toNat (s[4 * i + 2]'(by omega)).toNat (s[4 * i + 3]'(by omega)).toNat (s[4 * i + 1]'(by omega)).toNat_lt (s[4 * i + 2]'(by omega)).toNat_lt (s[4 * i + 3]'(by omega)).toNat_lt
  rw [leW, byt_get s (4 * i) (by omega), byt_get s (4 * i + 1) (by omega), byt_get s (4 * i + 2) (by omega), byt_get s (4 * i + 3) (by omega), ← z]
  rfl
end Go.Proofs.Ytkfacnegfkgcgaa

/-
  chacha.begin: the state of a block.
-/
namespace Go.Proofs.Ytkfacnegfkgcgaa
open Go.RowKit MS

def fillW (s : Array W32) (o : Nat) (t : ByteArray) : Nat → Array W32
  | 0 => s
  | i + 1 => (fillW s o t i).setIfInBounds (o + i) (leW t i)
theorem fillRow_rowW (s : Array W32) (o : Nat) (t : ByteArray) (n : Nat) : fillRow (rowWCh s) o t n = rowWCh (fillW s o t n) := by
  induction n with
  | zero => rfl
  | succ n ih => rw [fillRow, ih, rowW_setCh]; rfl
theorem size_fillW (s : Array W32) (o : Nat) (t : ByteArray) (n : Nat) : (fillW s o t n).size = s.size := by
  induction n with
  | zero => rfl
  | succ n ih => simp [fillW, ih]
def cst : ByteArray := ByteArray.mk #[101, 120, 112, 97, 110, 100, 32, 51, 50, 45, 98, 121, 116, 101, 32, 107]
def iw (k n : ByteArray) (c : W32) : Array W32 := fillW ((fillW (fillW (Array.replicate 16 0) 0 cst 4) 4 k 8).setIfInBounds 12 c) 13 n 3
theorem size_iw (k n : ByteArray) (c : W32) : (iw k n c).size = 16 := by simp [iw, size_fillW]

structure BSt (B : Nat) (w0 : World) (t : Array W32) (w : World) : Prop where
  r0 : w.heap[B]? = some (.cells (rowWCh (Array.replicate 16 0)) 53 (0, 0))
  r1 : w.heap[B + 1]? = some (.cells (rowWCh t) 53 (0, 0))
  bel : Below B w0 w
theorem BSt.step {B : Nat} {w0 w w' : World} {t t' : Array W32} (h : BSt B w0 t w) (hg : w.grownBy w' (some (B + 1))) (hr : w'.heap[B + 1]? = some (.cells (rowWCh t') 53 (0, 0))) : BSt B w0 t' w' := by
  have l0 : B < w.heap.size := (Array.getElem?_eq_some_iff.1 h.r0).1
  exact ⟨(hg.block B l0 (by simp)).trans h.r0, hr, h.bel.grown hg (by omega) (by intro k e; cases e; omega)⟩
theorem bst_start (w : World) : BSt w.heap.size w (Array.replicate 16 0) ((w.alloc (.cells (rowWCh (Array.replicate 16 0)) 53 (0, 0))).alloc (.cells (rowWCh (Array.replicate 16 0)) 53 (0, 0))) := by
  have hw := Below.refl w.heap.size w
  generalize hX : Obj.cells (rowWCh (Array.replicate 16 0)) 53 (0, 0) = X
  have s1 : (w.alloc X).heap.size = w.heap.size + 1 := World.size_alloc _ _
  have e1 : ((w.alloc X).alloc X).heap[w.heap.size]? = some X := ((MapKept.heap_alloc (w.alloc X) X).2 _ (by omega)).trans (MapKept.heap_alloc w X).1
  have f1 : ((w.alloc X).alloc X).heap[w.heap.size + 1]? = some X := by rw [← s1]; exact (MapKept.heap_alloc _ X).1
  subst hX
  exact ⟨e1, f1, below_alloc (below_alloc hw _) _⟩
theorem z16 : rowWCh (Array.replicate 16 0) = #[.int .u32 0, .int .u32 0, .int .u32 0, .int .u32 0, .int .u32 0, .int .u32 0, .int .u32 0, .int .u32 0, .int .u32 0, .int .u32 0, .int .u32 0, .int .u32 0, .int .u32 0, .int .u32 0, .int .u32 0, .int .u32 0] := by
  unfold rowWCh
  rw [Array.map_replicate]
  rfl
theorem bst_start' (w : World) : BSt w.heap.size w (Array.replicate 16 0) ((w.alloc (.cells #[.int .u32 0, .int .u32 0, .int .u32 0, .int .u32 0, .int .u32 0, .int .u32 0, .int .u32 0, .int .u32 0, .int .u32 0, .int .u32 0, .int .u32 0, .int .u32 0, .int .u32 0, .int .u32 0, .int .u32 0, .int .u32 0] 53 (0, 0))).alloc (.cells #[.int .u32 0, .int .u32 0, .int .u32 0, .int .u32 0, .int .u32 0, .int .u32 0, .int .u32 0, .int .u32 0, .int .u32 0, .int .u32 0, .int .u32 0, .int .u32 0, .int .u32 0, .int .u32 0, .int .u32 0, .int .u32 0] 53 (0, 0))) := by
  rw [← z16]
  exact bst_start w
theorem results_cell_tmp {P : Program} {fn : Func} {p q : Tmp} {ty : TypeId} (h : fn.results = #[.cell p ty, .tmp q]) (tmps : Array Value) (w : World) (g : Nat) (t : TypeId) (cs : Array Value) (fr : Nat × Nat) (d : TypeDesc)
    (hp : tmps.getD p undef = .pointer (some ⟨g, 0, none⟩)) (v : Value) (hv : tmps.getD q undef = v) (hg : w.heap[g]? = some (.cells cs t fr))
    (hu : P.underlying ty = some d) (hd : (match d with | .struct _ | .array _ _ => true | _ => false) = true) (hi : (P.info? ty).map (·.size) = some cs.size) :
    (results fn tmps).run P w = .ok (.tuple #[.agg cs, v]) w := by
  have hp' : tmps[p]?.getD undef = .pointer (some ⟨g, 0, none⟩) := by simpa using hp
  have hv' : tmps[q]?.getD undef = v := by simpa using hv
  simp [results, h, hp', hv', asAddr, run_loadVar_row w g t ty cs fr d hg hu hd hi]

set_option maxRecDepth 100000 in
set_option maxHeartbeats 1000000 in
theorem begin_yes (k n : ByteArray) (c : W32) (w : World) (hk : k.size = 32) (hn : n.size = 12) :
    Calls Try.prog 35 #[.string k, .string n, .int .u32 (wv c)] w fun e w' => e = .returned (.tuple #[.agg (rowWCh (iw k n c)), .bool true]) ∧ Below w.heap.size w w' := by
  have gk : ((k.size : Nat) : Int) = 32 := by omega
  have gn : ((n.size : Nat) : Int) = 12 := by omega
  have HK := Lib.hid hk
  have HN := Lib.hid hn
  have HB := Lib.hid (bst_start' w)
  clear hk hn
  go_enter Try.func35, Try.ntmps35
  go_wp2_with fail
  have st0 := HB.out
  generalize World.alloc _ _ = w0 at st0 ⊢
  change Calls _ _ #[_, .string cst] _ _
  refine (fill_any (w.heap.size + 1) 0 4 16 53 (rowWCh (Array.replicate 16 0)) cst _ (by simp [rowWCh]) (by decide) (by decide) st0.r1).mono ?_
  rintro e w1 ⟨rfl, hg, hr⟩
  rw [fillRow_rowW] at hr
  have st1 := st0.step hg hr
  have z1 := size_fillW (Array.replicate 16 0) 0 cst 4
  generalize hq1 : fillW (Array.replicate 16 0) 0 cst 4 = t1 at st1 z1
  have H1 := Lib.hid hq1
  have Z1 := Lib.hid (show t1.size = 16 by rw [z1]; rfl)
  clear hg hr hq1 z1 st0
  go_wp2_with fail
  refine (fill_any (w.heap.size + 1) 4 8 12 53 (rowWCh t1) k _ (by rw [size_rowWCh, Z1.out]; decide) (by rw [HK.out]; decide) (by decide) st1.r1).mono ?_
  rintro e w2 ⟨rfl, hg, hr⟩
  rw [fillRow_rowW] at hr
  have st2 := st1.step hg hr
  have z2 := size_fillW t1 4 k 8
  generalize hq2 : fillW t1 4 k 8 = t2 at st2 z2
  have H2 := Lib.hid hq2
  have Z2 := Lib.hid (show t2.size = 16 by rw [z2, Z1.out])
  clear hg hr hq2 z2 st1
  have hj : 12 < (rowWCh t2).size := by rw [size_rowWCh, Z2.out]; decide
  have hc : w2.cell? ⟨w.heap.size + 1, 12, none⟩ = some ((rowWCh t2)[12]'hj) := by rw [cell_of_row w2 (w.heap.size + 1) 12 _ _ _ st2.r1]; simp [hj]
  have hf := frozen_of_row w2 (w.heap.size + 1) 12 _ _ st2.r1
  generalize (rowWCh t2)[12]'hj = u at hc
  clear hj
  have ST2 := Lib.hid st2
  clear st2
  go_wp2_with fail
  have hr3 := row_setCh ST2.out.r1 0 12 (.int .u32 (wv c))
  have hg3 := grown_setCh (World.grownBy.refl w2 (some (w.heap.size + 1))) 0 12 (.int .u32 (wv c))
  rw [rowW_setCh] at hr3
  have st3 := ST2.out.step hg3 hr3
  have Z3 := Lib.hid (show (t2.setIfInBounds 12 c).size = 16 by simp [Z2.out])
  refine (fill_any (w.heap.size + 1) 13 3 3 53 (rowWCh (t2.setIfInBounds 12 c)) n _ (by rw [size_rowWCh, Z3.out]; decide) (by rw [HN.out]; decide) (by decide) st3.r1).mono ?_
  rintro e w4 ⟨rfl, hg, hr⟩
  rw [fillRow_rowW] at hr
  have st4 := st3.step hg hr
  have hiw : fillW (t2.setIfInBounds 12 c) 13 n 3 = iw k n c := by rw [iw, H1.out, H2.out]
  rw [hiw] at st4
  have hz := size_iw k n c
  generalize hI : iw k n c = I at st4 hz
  have HIW := Lib.hid hI
  clear hg hr hiw st3 hr3 hg3 hI hc hf
  have HI := Lib.hid (show (Try.prog.info? 53).map (·.size) = some (rowWCh I).size by rw [size_rowWCh, hz]; kernel_rfl)
  have HO := Lib.hid (show (rowWCh I).all (·.oneCell') = true by simp [rowWCh, Value.oneCell'])
  have HL := Lib.hid (show (rowWCh (Array.replicate 16 0)).size = (rowWCh I).size by rw [size_rowWCh, size_rowWCh, hz]; rfl)
  have HR0 := Lib.hid st4.r0
  have HR1 := Lib.hid st4.r1
  have HBL := Lib.hid st4.bel
  clear st4 hz
  go_wp2_with (first
    | (with_reducible refine wpList_load_row rfl 53 (.tmp 8) rfl (w.heap.size + 1) rfl 53 (rowWCh I) (0, 0) _ HR1.out Try.underlying53 rfl HI.out ?_)
    | (with_reducible refine wpList_store_row rfl 53 (.tmp 6) (.tmp 28) rfl w.heap.size (rowWCh I) rfl rfl 53 (rowWCh (Array.replicate 16 0)) HR0.out HI.out HL.out HO.out ?_))
  refine bodyPost_ret (results_cell_tmp rfl _ _ w.heap.size 53 (rowWCh I) (0, 0) _ rfl _ rfl (setRow_heap _ _ _ _ _ _ HR0.out) Try.underlying53 rfl HI.out) rfl ⟨by rw [HIW.out]; rfl, ?_⟩
  exact below_setRowCh HBL.out (Nat.le_refl _) _
end Go.Proofs.Ytkfacnegfkgcgaa

/-
  chacha.Block.
-/
namespace Go.Proofs.Ytkfacnegfkgcgaa
open Go.RowKit MS

def obB (x : W32) : Nat → UInt8
  | 0 => UInt8.ofNat (x.toNat % 256)
  | 1 => UInt8.ofNat (x.toNat / 256 % 256)
  | 2 => UInt8.ofNat (x.toNat / 65536 % 256)
  | _ => UInt8.ofNat (x.toNat / 16777216 % 256)
def valBCh (b : UInt8) : Value := .int .u8 (b.toNat : Int)
theorem byte_val (m : Nat) : ((UInt8.ofNat (m % 256)).toNat : Int) = (m : Int) % 256 := by
  have : (UInt8.ofNat (m % 256)).toNat = m % 256 := by simp
  rw [this]; omega
theorem ob_val (x : W32) : ∀ j, ob x j = valBCh (obB x j)
  | 0 => by
    show Value.int .u8 (wv x % 256) = .int .u8 ((UInt8.ofNat (x.toNat % 256)).toNat : Int)
    rw [byte_val]; rfl
  | 1 => by
    show Value.int .u8 (wv x / 256 % 256) = .int .u8 ((UInt8.ofNat (x.toNat / 256 % 256)).toNat : Int)
    rw [byte_val, Int.natCast_ediv]; rfl
  | 2 => by
    show Value.int .u8 (wv x / 65536 % 256) = .int .u8 ((UInt8.ofNat (x.toNat / 65536 % 256)).toNat : Int)
    rw [byte_val, Int.natCast_ediv]; rfl
  | _ + 3 => by
    show Value.int .u8 (wv x / 16777216 % 256) = .int .u8 ((UInt8.ofNat (x.toNat / 16777216 % 256)).toNat : Int)
    rw [byte_val, Int.natCast_ediv]; rfl
def oB (z : Nat → W32) : Nat → Array UInt8
  | 0 => Array.replicate 64 0
  | i + 1 => ((((oB z i).setIfInBounds (4 * i) (obB (z i) 0)).setIfInBounds (4 * i + 1) (obB (z i) 1)).setIfInBounds (4 * i + 2) (obB (z i) 2)).setIfInBounds (4 * i + 3) (obB (z i) 3)
theorem orow_oB (z : Nat → W32) (i : Nat) : orow z i = (oB z i).map valBCh := by
  induction i with
  | zero => rw [orow, oB, Array.map_replicate]; rfl
  | succ i ih => rw [orow, oB, Array.map_setIfInBounds, Array.map_setIfInBounds, Array.map_setIfInBounds, Array.map_setIfInBounds, ih, ob_val, ob_val, ob_val, ob_val]
/-- The block's bytes. -/
def blkB (s : Array W32) : ByteArray := ⟨oB (zz (drs 10 s) s) 16⟩
theorem blk_blkB (s : Array W32) : blk s = (ls (blkB s)).toArray.map valBCh := by
  show orow _ 16 = _
  rw [orow_oB]
  show _ = ((oB (zz (drs 10 s) s) 16).toList.toArray).map valBCh
  rw [Array.toArray_toList]
end Go.Proofs.Ytkfacnegfkgcgaa

/-
  chacha.Block: the walk.
-/
namespace Go.Proofs.Ytkfacnegfkgcgaa
open Go.RowKit MS

theorem z64 : Array.replicate 64 (Value.int .u8 0) = (#[.int .u8 0, .int .u8 0, .int .u8 0, .int .u8 0, .int .u8 0, .int .u8 0, .int .u8 0, .int .u8 0, .int .u8 0, .int .u8 0, .int .u8 0, .int .u8 0, .int .u8 0, .int .u8 0, .int .u8 0, .int .u8 0, .int .u8 0, .int .u8 0, .int .u8 0, .int .u8 0, .int .u8 0, .int .u8 0, .int .u8 0, .int .u8 0, .int .u8 0, .int .u8 0, .int .u8 0, .int .u8 0, .int .u8 0, .int .u8 0, .int .u8 0, .int .u8 0, .int .u8 0, .int .u8 0, .int .u8 0, .int .u8 0, .int .u8 0, .int .u8 0, .int .u8 0, .int .u8 0, .int .u8 0, .int .u8 0, .int .u8 0, .int .u8 0, .int .u8 0, .int .u8 0, .int .u8 0, .int .u8 0, .int .u8 0, .int .u8 0, .int .u8 0, .int .u8 0, .int .u8 0, .int .u8 0, .int .u8 0, .int .u8 0, .int .u8 0, .int .u8 0, .int .u8 0, .int .u8 0, .int .u8 0, .int .u8 0, .int .u8 0, .int .u8 0] : Array Value) := rfl
theorem conv_blk (w : World) (b : Nat) (s : Array W32) (hb : w.heap[b]? = some (.cells (blk s) 56 (0, 0))) (hs : (blk s).size = 64) :
    (convert 37 9 (.slice (some ⟨b, 0, none⟩) 64 64)).run Try.prog w = .ok (.string (blkB s)) w := by
  have hl : (ls (blkB s)).length = 64 := by rw [blk_blkB] at hs; simpa using hs
  have := run_block_to_string (P := Try.prog) w 37 9 5 Try.underlying37 Try.underlying5 Try.underlying9 b 64 64 56 (0, 0) (ls (blkB s)) (blk s) hb hl (fun j h => by
    rw [blk_blkB]
    simp [valBCh, h])
  rw [bs_ls] at this
  exact this

set_option maxRecDepth 100000 in
set_option maxHeartbeats 1000000 in
theorem block_yes (k n : ByteArray) (c : W32) (w : World) (hk : k.size = 32) (hn : n.size = 12) :
    Calls Try.prog 21 #[.string k, .string n, .int .u32 (wv c)] w fun e w' => e = .returned (.tuple #[.string (blkB (iw k n c)), .bool true]) ∧ Below w.heap.size w w' := by
  have H1 := Lib.hid (begin_yes k n c w hk hn)
  have hz := size_iw k n c
  generalize hI : iw k n c = I at H1 hz
  have H2 := Lib.hid (fun w => finish_anyCh I w hz)
  have hb64 : (blk I).size = 64 := size_orow _ _
  have HB64 := Lib.hid hb64
  have HIW := Lib.hid hI
  have HI := Lib.hid (show (Try.prog.info? 53).map (·.size) = some (rowWCh I).size by rw [size_rowWCh, hz]; kernel_rfl)
  have HI5 := Lib.hid (show (Try.prog.info? 56).map (·.size) = some (blk I).size by rw [hb64]; kernel_rfl)
  have HO := Lib.hid (show (rowWCh I).all (·.oneCell') = true by simp [rowWCh, Value.oneCell'])
  have HO5 := Lib.hid (show (blk I).all (·.oneCell') = true from all_orow _ _)
  have HL := Lib.hid (show (Array.replicate 16 (Value.int .u32 0)).size = (rowWCh I).size by rw [size_rowWCh, hz]; rfl)
  have HL5 := Lib.hid (show (Array.replicate 64 (Value.int .u8 0)).size = (blk I).size by rw [hb64]; rfl)
  clear hk hn hz hI hb64
  go_enter Try.func21, Try.ntmps21
  go_wp2_with fail
  refine H1.out.mono ?_
  rintro e w1 ⟨rfl, hb1⟩
  have HR := Lib.hid ((MapKept.heap_alloc w1 (.cells (Array.replicate 16 (.int .u32 0)) 53 (0, 0))).1)
  have HR' := Lib.hid (setRow_heap _ _ _ (rowWCh I) _ _ HR.out)
  have HB1 := Lib.hid hb1
  clear hb1
  go_wp2_with (first
    | (with_reducible refine wpList_store_row rfl 53 (.tmp 8) (.tmp 16) rfl w1.heap.size (rowWCh I) rfl rfl 53 (Array.replicate 16 (.int .u32 0)) ?hg HI.out HL.out HO.out ?_)
    | (with_reducible refine wpList_load_row rfl 53 (.tmp 8) rfl w1.heap.size rfl 53 (rowWCh I) (0, 0) _ ?hg2 Try.underlying53 rfl HI.out ?_))
  case hg => exact HR.out
  case hg2 => exact HR'.out
  refine (H2.out _).mono ?_
  rintro e w2 ⟨rfl, hb2⟩
  have HS := Lib.hid ((MapKept.heap_alloc w2 (.cells (Array.replicate 64 (.int .u8 0)) 56 (0, 0))).1)
  have HS' := Lib.hid (setRow_heap _ _ _ (blk I) _ _ HS.out)
  have hcv := conv_blk _ w2.heap.size I HS'.out HB64.out
  rw [z64] at hcv
  have HB2 := Lib.hid hb2
  clear hb2
  go_wp2_with (with_reducible refine wpList_store_row rfl 56 (.tmp 10) (.tmp 21) rfl w2.heap.size (blk I) rfl rfl 56 (Array.replicate 64 (.int .u8 0)) ?hg3 HI5.out HL5.out HO5.out ?_)
  case hg3 => exact HS.out
  go_ret2
  refine ⟨by first | rfl | (rw [HIW.out]; rfl), ?_⟩
  refine below_setRowCh (below_alloc ?_ _) (by have := HB1.out.size; have := HB2.out.size; simp at this; omega) _
  exact (below_setRowCh (below_alloc HB1.out _) HB1.out.size _).trans (HB2.out.mono (by have := HB1.out.size; simp; omega))
end Go.Proofs.Ytkfacnegfkgcgaa

/-
  mailsackref05.Block: plain lemmas for its walk.
-/
namespace Go.Proofs.Ytkfacnegfkgcgaa
open Go.RowKit MS

def wvsCh (l : List W32) : List Value := l.map (fun x => .int .u32 (wv x))

theorem one_cellCh (w : World) (x : Value) (T : Nat) : ∀ j u, [x][j]? = some u → (w.alloc (.cells #[x] T (0, 0))).cell? ((⟨w.heap.size, 0, none⟩ : Addr).add j) = some u := by
  intro j u hu
  obtain ⟨rfl, rfl⟩ : j = 0 ∧ u = x := by
    cases j with
    | zero => exact ⟨rfl, by simpa using hu.symm⟩
    | succ m => simp at hu
  exact cell_of_row _ _ _ _ _ _ (MapKept.heap_alloc w _).1

theorem one_oneCh (x : Value) (h : x.oneCell' = true) : ∀ u ∈ [x], u.oneCell' = true := by
  intro u hu
  rw [List.mem_singleton.1 hu]
  exact h
theorem le_allocCh {B : Nat} {w : World} (h : B ≤ w.heap.size) (o : Obj) : B ≤ (w.alloc o).heap.size := by
  rw [World.size_alloc]
  exact Nat.le_succ_of_le h
theorem below_appCh {w0 wr w' : World} (hb : Below w0.heap.size w0 wr) (o : Obj) (v : Value) (n : Nat) (e : TypeId) (xs : List Value) (ho : wr.ownsRow w0.heap.size e 1 v n xs) (hg : (wr.alloc o).grownBy w' v.ownBlock) : Below w0.heap.size w0 w' :=
  (below_alloc hb o).grown hg (by rw [World.size_alloc]; exact Nat.le_succ_of_le hb.size) (fun m hm => (ho.lt m hm).1)

def fillG (s : Array W32) (o : Nat) (f : Nat → W32) : Nat → Array W32
  | 0 => s
  | i + 1 => (fillG s o f i).setIfInBounds (o + i) (f i)
theorem fillW_G (s : Array W32) (o : Nat) (t : ByteArray) (i : Nat) : fillW s o t i = fillG s o (leW t) i := by
  induction i with
  | zero => rfl
  | succ i ih => rw [fillW, fillG, ih]
theorem fillG_words (f g h : Nat → W32) (c z : W32) :
    ((((List.range 4).map f ++ (List.range 8).map g) ++ [c]) ++ (List.range 3).map h) = (fillG ((fillG (fillG (Array.replicate 16 z) 0 f 4) 4 g 8).setIfInBounds 12 c) 13 h 3).toList := by
  simp only [fillG, Array.toList_setIfInBounds, Array.toList_replicate]
  rfl
theorem iw_words (k n : ByteArray) (c : W32) :
    ((((List.range 4).map (leW cst) ++ (List.range 8).map (leW k)) ++ [c]) ++ (List.range 3).map (leW n)) = (iw k n c).toList := by
  unfold iw
  rw [fillW_G, fillW_G, fillW_G]
  exact fillG_words _ _ _ _ _

/-- A row that is copied word by word. -/
def cp (S : Array W32) : Nat → Array W32
  | 0 => Array.replicate 16 0
  | j + 1 => (cp S j).setIfInBounds j (S.getD j 0)
theorem size_cp (S : Array W32) (j : Nat) : (cp S j).size = 16 := by
  induction j with
  | zero => simp [cp]
  | succ j ih => simp [cp, ih]
theorem cp_get (S : Array W32) (j i : Nat) (hi : i < 16) : (cp S j)[i]? = some (if i < j then S.getD i 0 else 0) := by
  induction j with
  | zero => simp [cp, hi]
  | succ j ih =>
    rw [cp, Array.getElem?_setIfInBounds, size_cp]
    by_cases h : j = i
    · subst h
      rw [if_pos rfl, if_pos hi, if_pos (Nat.lt_succ_self j)]
    · rw [if_neg h, ih]
      congr 1
      by_cases h2 : i < j
      · rw [if_pos h2, if_pos (by omega)]
      · rw [if_neg h2, if_neg (by omega)]
theorem cp_all (S : Array W32) (hS : S.size = 16) : cp S 16 = S := by
  apply Array.ext_getElem?
  intro i
  by_cases hi : i < 16
  · rw [cp_get S 16 i hi, if_pos hi]
    simp [hS, hi]
  · rw [Array.getElem?_eq_none (by rw [size_cp]; omega), Array.getElem?_eq_none (by rw [hS]; omega)]

/-- What is known of the world behind the first words: they lie at gv; the row that is turned lies at g. -/
structure RStCh (B gv g : Nat) (w0 : World) (S t : Array W32) (cur : Array Value) (w : World) : Prop where
  ne : gv ≠ g
  gev : B ≤ gv
  geg : B ≤ g
  rv : w.heap[gv]? = some (.cells cur 22 (0, 0))
  hc : ∀ j, j < 16 → cur[j]? = some (.int .u32 (wv (S.getD j 0)))
  rg : w.heap[g]? = some (.cells (rowWCh t) 22 (0, 0))
  bel : Below B w0 w
theorem RStCh.step {B gv g : Nat} {w0 w w' : World} {S t t' : Array W32} {cur : Array Value} (h : RStCh B gv g w0 S t cur w) (hg : w.grownBy w' (some g)) (hr : w'.heap[g]? = some (.cells (rowWCh t') 22 (0, 0))) : RStCh B gv g w0 S t' cur w' := by
  have l0 : gv < w.heap.size := (Array.getElem?_eq_some_iff.1 h.rv).1
  have lb : B ≤ w.heap.size := Nat.le_of_lt (Nat.lt_of_le_of_lt h.gev l0)
  refine ⟨h.ne, h.gev, h.geg, (hg.block gv l0 (by simp [h.ne])).trans h.rv, h.hc, hr, h.bel.grown hg lb (by intro k e; cases e; exact h.geg)⟩
theorem RStCh.set {B gv g : Nat} {w0 w : World} {S t : Array W32} {cur : Array Value} (h : RStCh B gv g w0 S t cur w) (p : Nat) (x : W32) : RStCh B gv g w0 S (t.setIfInBounds p x) cur (w.setCell ⟨g, p, none⟩ (.int .u32 (wv x))) := by
  refine h.step ⟨rfl, rfl, rfl, by simp, fun k _ hk => heap_setCell_other w ⟨g, p, none⟩ k _ (fun e => hk (by simp [e]))⟩ ?_
  rw [heap_setCell_same w g p (rowWCh t) _ _ h.rg, rowW_setCh]
theorem RStCh.word {B gv g : Nat} {w0 w : World} {S t : Array W32} {cur : Array Value} (h : RStCh B gv g w0 S t cur w) (j : Nat) (hj : j < 16) : w.cell? ⟨gv, j, none⟩ = some (.int .u32 (wv (S.getD j 0))) := by
  rw [cell_of_row w gv j _ _ _ h.rv]
  exact h.hc j hj
theorem RStCh.turned {B gv g : Nat} {w0 w : World} {S t : Array W32} {cur : Array Value} (h : RStCh B gv g w0 S t cur w) (ht : t.size = 16) (j : Nat) (hj : j < 16) : w.cell? ⟨g, j, none⟩ = some (.int .u32 (wv (t.getD j 0))) := by
  rw [cell_of_row w g j _ _ _ h.rg]
  simp [rowWCh, ht, hj]
theorem RStCh.carry {B B2 gv g : Nat} {w0 w w' : World} {S t : Array W32} {cur : Array Value} (h : RStCh B gv g w0 S t cur w) (hB : B ≤ B2) (hv : gv < B2) (hg : g < B2) (hb : Below B2 w w') : RStCh B gv g w0 S t cur w' :=
  ⟨h.ne, h.gev, h.geg, (hb.block gv hv).trans h.rv, h.hc, (hb.block g hg).trans h.rg, h.bel.trans (hb.mono hB)⟩

/-- The row just made. -/
theorem rst_start {B gv cap : Nat} {w0 w w' : World} {S : Array W32} (hS : S.size = 16) (hb : Below B w0 w) (hown : w.ownsRow B 22 1 (.slice (some ⟨gv, 0, none⟩) 16 cap) 16 (wvsCh S.toList))
    (hg : w.grownBy w' none) (hm : w'.ownsRow B 22 1 (.slice (some ⟨w.heap.size, 0, none⟩) 16 16) 16 (madeCells (Value.int .u32 0).cells (16 * 1)).toList) :
    ∃ cur, RStCh B gv w.heap.size w0 S (cp S 0) cur w' := by
  rcases hown.2 with ⟨h', _⟩ | ⟨g', cap', cur, h', hb1, hg1, _, _, hsz, htake⟩
  · simp at h'
  · simp only [Value.slice.injEq, Option.some.injEq, Addr.mk.injEq, and_true, true_and] at h'
    obtain ⟨rfl, rfl⟩ := h'
    have l0 : gv < w.heap.size := (Array.getElem?_eq_some_iff.1 hg1).1
    rcases hm.2 with ⟨h2, _⟩ | ⟨g2, cap2, cur2, h2, hb2, hg2, _, _, hsz2, htake2⟩
    · simp at h2
    · simp only [Value.slice.injEq, Option.some.injEq, Addr.mk.injEq, and_true, true_and] at h2
      obtain ⟨rfl, rfl⟩ := h2
      have hcur2 : cur2 = rowWCh (cp S 0) := by
        apply Array.toList_inj.1
        rw [List.take_of_length_le (by rw [Array.length_toList, hsz2]; exact Nat.le_refl _)] at htake2
        rw [htake2, show (Value.int .u32 0).cells = #[.int .u32 0] from rfl, toList_madeCells_one, rowWCh, cp, Array.toList_map, Array.toList_replicate, List.map_replicate]
        rfl
      refine ⟨cur, by omega, hb1, hb2, (hg.block gv l0 (by simp)).trans hg1, ?_, by rw [← hcur2]; exact hg2, hb.grown hg (by omega) (by intro k e; cases e)⟩
      intro j hj
      have : (cur.toList.take (16 * 1))[j]? = (wvsCh S.toList)[j]? := by rw [htake]
      rw [List.getElem?_take, if_pos (by omega), Array.getElem?_toList] at this
      rw [this]
      simp [wvsCh, hS, hj]

/-- The block's bytes, as a list. -/
def bl (z : Nat → W32) : Nat → List UInt8
  | 0 => []
  | i + 1 => bl z i ++ [obB (z i) 0] ++ [obB (z i) 1] ++ [obB (z i) 2] ++ [obB (z i) 3]
theorem length_bl (z : Nat → W32) (i : Nat) : (bl z i).length = 4 * i := by
  induction i with
  | zero => rfl
  | succ i ih => simp [bl, ih]; omega
def oG (F : Nat → Nat → UInt8) : Nat → Array UInt8
  | 0 => Array.replicate 64 0
  | i + 1 => ((((oG F i).setIfInBounds (4 * i) (F i 0)).setIfInBounds (4 * i + 1) (F i 1)).setIfInBounds (4 * i + 2) (F i 2)).setIfInBounds (4 * i + 3) (F i 3)
def bG (F : Nat → Nat → UInt8) : Nat → List UInt8
  | 0 => []
  | i + 1 => bG F i ++ [F i 0] ++ [F i 1] ++ [F i 2] ++ [F i 3]
theorem oB_G (z : Nat → W32) (i : Nat) : oB z i = oG (fun i j => obB (z i) j) i := by
  induction i with
  | zero => rfl
  | succ i ih => rw [oB, oG, ih]
theorem bl_G (z : Nat → W32) (i : Nat) : bl z i = bG (fun i j => obB (z i) j) i := by
  induction i with
  | zero => rfl
  | succ i ih => rw [bl, bG, ih]
theorem length_bG (F : Nat → Nat → UInt8) (i : Nat) : (bG F i).length = 4 * i := by
  induction i with
  | zero => rfl
  | succ i ih => simp [bG, ih]; omega
theorem set_app (l r : List UInt8) (x v : UInt8) (p : Nat) (hp : l.length = p) : (l ++ x :: r).set p v = (l ++ [v]) ++ r := by
  subst hp
  simp
theorem oG_list (F : Nat → Nat → UInt8) (i m : Nat) (h : 4 * i + m = 64) : (oG F i).toList = bG F i ++ List.replicate m 0 := by
  induction i generalizing m with
  | zero =>
    obtain rfl : m = 64 := by omega
    simp [oG, bG]
  | succ i ih =>
    have h4 := ih (m + 4) (by omega)
    have hl := length_bG F i
    rw [oG, bG, Array.toList_setIfInBounds, Array.toList_setIfInBounds, Array.toList_setIfInBounds, Array.toList_setIfInBounds, h4, List.replicate_succ, List.replicate_succ, List.replicate_succ, List.replicate_succ,
      set_app _ _ _ _ _ hl, set_app _ _ _ _ _ (by simp [hl]), set_app _ _ _ _ _ (by simp [hl]), set_app _ _ _ _ _ (by simp [hl])]
theorem oG_bG (F : Nat → Nat → UInt8) : (oG F 16).toList = bG F 16 := by
  have := oG_list F 16 0 rfl
  simpa using this
theorem bl_oB (z : Nat → W32) : (oB z 16).toList = bl z 16 := by rw [oB_G, bl_G, oG_bG]
def vlsCh (l : List UInt8) : List Value := l.map valBCh
theorem vls_appCh (l : List UInt8) (b : UInt8) : vlsCh (l ++ [b]) = vlsCh l ++ [valBCh b] := by simp [vlsCh]

theorem bs_bl (S : Array W32) : bs (bl (zz (drs 10 S) S) 16) = blkB S := by
  rw [← bl_oB]
  exact bs_ls (blkB S)
def blv (z : Nat → W32) : Nat → List Value
  | 0 => []
  | i + 1 => blv z i ++ [ob (z i) 0] ++ [ob (z i) 1] ++ [ob (z i) 2] ++ [ob (z i) 3]
theorem blv_bl (z : Nat → W32) (i : Nat) : blv z i = vlsCh (bl z i) := by
  induction i with
  | zero => rfl
  | succ i ih => rw [blv, bl, vls_appCh, vls_appCh, vls_appCh, vls_appCh, ih, ob_val, ob_val, ob_val, ob_val]
theorem conv_outCh {B2 cap g : Nat} {w : World} (l : List UInt8) (n : Nat) (hl : l.length = n) (hown : w.ownsRow B2 5 1 (.slice (some ⟨g, 0, none⟩) n cap) n (vlsCh l)) :
    (convert 37 9 (.slice (some ⟨g, 0, none⟩) n cap)).run Try.prog w = .ok (.string (bs l)) w := by
  refine run_bytes_to_string w 37 9 5 Try.underlying37 Try.underlying5 Try.underlying9 g 0 n cap l hl (fun j h => ?_)
  have := hown.cellAt j (by omega)
  rw [Nat.zero_add, this]
  simp [vlsCh, valBCh, h]
end Go.Proofs.Ytkfacnegfkgcgaa
