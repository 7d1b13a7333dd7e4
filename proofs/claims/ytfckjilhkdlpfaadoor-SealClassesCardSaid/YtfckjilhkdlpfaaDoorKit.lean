/-
  Small laws that the walks of this seat share: bytes made to a string, blocks known whole, worlds that grow. No program stands in them.
-/
import Derived.WalkKit
import Derived.WalkSpells
import Derived.WalkLawsBesides
import Derived.Lib.Hide
import Derived.Lib.ConvBytes
import Derived.Deep.QuietTactic
import Derived.BigQuiet
import Derived.Deep.RegionHeld3
import Derived.Deep.LoopGhost
import Derived.Deep.DeepFit
import Derived.Deep.DeepMust
import Derived.Deep.RegionWith
import Derived.StillTailTactics
import Derived.Laws.ResultCell
namespace MS
open Go Go.RowKit

/-- A list of bytes as a string, and back. -/
def bs (l : List UInt8) : ByteArray := ⟨l.toArray⟩
def ls (s : ByteArray) : List UInt8 := s.data.toList
theorem bs_ls (s : ByteArray) : bs (ls s) = s := rfl
theorem ls_bs (l : List UInt8) : ls (bs l) = l := rfl
theorem size_bs (l : List UInt8) : (bs l).size = l.length := by show l.toArray.size = _; simp
theorem length_ls (s : ByteArray) : (ls s).length = s.size := by show s.data.toList.length = s.data.size; simp
theorem ls_inj {s t : ByteArray} (h : ls s = ls t) : s = t := by rw [← bs_ls s, ← bs_ls t, h]
theorem bs_append (a b : List UInt8) : bs a ++ bs b = bs (a ++ b) := ByteArray.mk_append_mk a b
theorem ls_append (a b : ByteArray) : ls (a ++ b) = ls a ++ ls b := by
  have h := bs_append (ls a) (ls b)
  rw [bs_ls, bs_ls] at h
  rw [h, ls_bs]
theorem ls_extract (s : ByteArray) (a b : Nat) : ls (s.extract a b) = ((ls s).drop a).take (b - a) := by
  rw [← bs_ls s]
  unfold bs
  rw [ByteArray.extract_mk]
  rfl
theorem get_ls (s : ByteArray) (i : Nat) (h : i < s.size) : s[i] = (ls s)[i]'(by rw [length_ls]; exact h) := rfl

theorem fold_push (ns : List UInt8) : ∀ (s : ByteArray), (ns.map (fun b => (b.toNat : Int))).foldl (fun r n => r.push (UInt8.ofNat n.toNat)) s = s ++ bs ns := by
  induction ns with
  | nil => intro s; apply ls_inj; rw [ls_append]; simp [ls_bs]
  | cons b ns ih =>
    intro s
    simp only [List.map_cons, List.foldl_cons]
    rw [ih]
    apply ls_inj
    rw [ls_append, ls_append, ls_bs, ls_bs]
    have : ls (s.push (UInt8.ofNat (b.toNat : Int).toNat)) = ls s ++ [b] := by
      simp [ls, ByteArray.push]
    rw [this]
    simp

/-- 'string(b)' of bytes whose cells are known. -/
theorem run_bytes_to_string {P : Program} (w : World) (src dst e : TypeId) (hs : P.underlying src = some (.slice e)) (he : P.underlying e = some (.int .u8)) (hd : P.underlying dst = some .string)
    (b off len cap : Nat) (l : List UInt8) (hl : l.length = len) (hc : ∀ j (h : j < l.length), w.cell? ⟨b, off + j, none⟩ = some (.int .u8 (l[j].toNat : Int))) :
    (convert src dst (.slice (some ⟨b, off, none⟩) len cap)).run P w = .ok (.string (bs l)) w := by
  subst hl
  rw [run_convert_bytes_string w src dst e _ _ _ hs he hd]
  have hl : (loadCells ⟨b, off, none⟩ l.length).run P w = .ok ((l.map (fun b => (b.toNat : Int))).map (Value.int .u8)).toArray w := by
    have := run_loadCells_list (P := P) w ⟨b, off, none⟩ ((l.map (fun b => (b.toNat : Int))).map (Value.int .u8)) (fun j v hj => by
      simp only [List.map_map, List.getElem?_map, Option.map_eq_some_iff] at hj
      obtain ⟨x, hx, rfl⟩ := hj
      obtain ⟨h, rfl⟩ := List.getElem?_eq_some_iff.1 hx
      have hadd : (⟨b, off, none⟩ : Addr).add j = ⟨b, off + j, none⟩ := by unfold Addr.add; split <;> simp_all
      rw [hadd, hc j h]; rfl)
    simpa using this
  rw [run_bytesToString w _ _ _ _ hl, fold_push]
  congr 2

/-- A block of bytes, whole: what 'string(b)' makes of it. -/
theorem run_block_to_string {P : Program} (w : World) (src dst e : TypeId) (hs : P.underlying src = some (.slice e)) (he : P.underlying e = some (.int .u8)) (hd : P.underlying dst = some .string)
    (b len cap : Nat) (t : TypeId) (fr : Nat × Nat) (l : List UInt8) (cs : Array Value) (hb : w.heap[b]? = some (.cells cs t fr)) (hl : l.length = len) (hc : ∀ j (h : j < l.length), cs[j]? = some (.int .u8 (l[j].toNat : Int))) :
    (convert src dst (.slice (some ⟨b, 0, none⟩) len cap)).run P w = .ok (.string (bs l)) w := by
  refine run_bytes_to_string w src dst e hs he hd b 0 len cap l hl (fun j h => ?_)
  rw [Nat.zero_add, cell_of_row w b j cs t fr hb, hc j h]
/-- 'string([]byte{x})' and 'string([]byte{x, y})' over the block just made. -/
theorem run_one_to_string {P : Program} (src dst e : TypeId) (hs : P.underlying src = some (.slice e)) (he : P.underlying e = some (.int .u8)) (hd : P.underlying dst = some .string) (w : World) (x : UInt8) :
    (convert src dst (.slice (some ⟨w.heap.size, 0, none⟩) 1 1)).run P (w.alloc (.cells #[.int .u8 (x.toNat : Int)] e)) = .ok (.string (bs [x])) (w.alloc (.cells #[.int .u8 (x.toNat : Int)] e)) := by
  refine run_block_to_string _ src dst e hs he hd _ 1 1 e (0, 0) [x] _ (heap_alloc_new w _) rfl (fun j h => ?_)
  match j, h with
  | 0, _ => rfl
theorem run_two_to_string {P : Program} (src dst e : TypeId) (hs : P.underlying src = some (.slice e)) (he : P.underlying e = some (.int .u8)) (hd : P.underlying dst = some .string) (w : World) (x y : UInt8) :
    (convert src dst (.slice (some ⟨w.heap.size, 0, none⟩) 2 2)).run P (w.alloc (.cells #[.int .u8 (x.toNat : Int), .int .u8 (y.toNat : Int)] e)) = .ok (.string (bs [x, y])) (w.alloc (.cells #[.int .u8 (x.toNat : Int), .int .u8 (y.toNat : Int)] e)) := by
  refine run_block_to_string _ src dst e hs he hd _ 2 2 e (0, 0) [x, y] _ (heap_alloc_new w _) rfl (fun j h => ?_)
  match j, h with
  | 0, _ => rfl
  | 1, _ => rfl

theorem u8_of (n : Int) (h0 : 0 ≤ n) (h1 : n ≤ 255) : ((UInt8.ofNat n.toNat).toNat : Int) = n := by
  rw [UInt8.toNat_ofNat']; omega
theorem run_one_int {P : Program} (src dst e : TypeId) (hs : P.underlying src = some (.slice e)) (he : P.underlying e = some (.int .u8)) (hd : P.underlying dst = some .string) (n : Int) (h0 : 0 ≤ n) (h1 : n ≤ 255) (w : World) (b : Nat) (hb : w.heap.size = b) :
    (convert src dst (.slice (some ⟨b, 0, none⟩) 1 1)).run P (w.alloc (.cells #[.int .u8 n] e)) = .ok (.string (bs [UInt8.ofNat n.toNat])) (w.alloc (.cells #[.int .u8 n] e)) := by
  subst hb
  have h := run_one_to_string (P := P) src dst e hs he hd w (UInt8.ofNat n.toNat)
  rwa [u8_of n h0 h1] at h
theorem run_two_int {P : Program} (src dst e : TypeId) (hs : P.underlying src = some (.slice e)) (he : P.underlying e = some (.int .u8)) (hd : P.underlying dst = some .string) (n m : Int) (h0 : 0 ≤ n) (h1 : n ≤ 255) (h2 : 0 ≤ m) (h3 : m ≤ 255) (w : World) (b : Nat) (hb : w.heap.size = b) :
    (convert src dst (.slice (some ⟨b, 0, none⟩) 2 2)).run P (w.alloc (.cells #[.int .u8 n, .int .u8 m] e)) = .ok (.string (bs [UInt8.ofNat n.toNat, UInt8.ofNat m.toNat])) (w.alloc (.cells #[.int .u8 n, .int .u8 m] e)) := by
  subst hb
  have h := run_two_to_string (P := P) src dst e hs he hd w (UInt8.ofNat n.toNat) (UInt8.ofNat m.toNat)
  rwa [u8_of n h0 h1, u8_of m h2 h3] at h

theorem bcell {W w1 : World} (hb : Below W.heap.size W w1) : (∀ b o, b < W.heap.size → w1.cell? ⟨b, o, none⟩ = W.cell? ⟨b, o, none⟩) ∧ (∀ b o, b < W.heap.size → w1.frozen? ⟨b, o, none⟩ = W.frozen? ⟨b, o, none⟩) :=
  ⟨fun b o h => hb.cell (p := ⟨b, o, none⟩) h, fun b o h => hb.frozen (p := ⟨b, o, none⟩) h⟩
theorem below_chain {w a b : World} (h : Below w.heap.size w a) (h2 : Below a.heap.size a b) : Below w.heap.size w b := h.trans (h2.mono h.size)
theorem below_alloc {w a : World} (h : Below w.heap.size w a) (o : Obj) : Below w.heap.size w (a.alloc o) := h.alloc h.size o
theorem below_setCell {w a : World} (h : Below w.heap.size w a) {p : Addr} (hp : w.heap.size ≤ p.block) (u : Value) : Below w.heap.size w (a.setCell p u) := h.setCell hp u
/-- The call's own first blocks, in a later world. -/
theorem own1 {w v : World} {X : Obj} (K : Below (w.alloc X).heap.size (w.alloc X) v) :
    (∀ o, v.cell? ⟨w.heap.size, o, none⟩ = (w.alloc X).cell? ⟨w.heap.size, o, none⟩) ∧ (∀ o, v.frozen? ⟨w.heap.size, o, none⟩ = (w.alloc X).frozen? ⟨w.heap.size, o, none⟩) ∧ w.heap.size < v.heap.size := by
  have hs : (w.alloc X).heap.size = w.heap.size + 1 := by simp
  have h := K.size
  rw [hs] at h
  exact ⟨fun o => K.cell (p := ⟨w.heap.size, o, none⟩) (by rw [hs]; exact Nat.lt_succ_self _), fun o => K.frozen (p := ⟨w.heap.size, o, none⟩) (by rw [hs]; exact Nat.lt_succ_self _), h⟩
theorem own2 {w v : World} {X Y : Obj} (K : Below ((w.alloc X).alloc Y).heap.size ((w.alloc X).alloc Y) v) :
    (∀ o, v.cell? ⟨w.heap.size, o, none⟩ = ((w.alloc X).alloc Y).cell? ⟨w.heap.size, o, none⟩) ∧ (∀ o, v.frozen? ⟨w.heap.size, o, none⟩ = ((w.alloc X).alloc Y).frozen? ⟨w.heap.size, o, none⟩) ∧
    (∀ o, v.cell? ⟨w.heap.size + 1, o, none⟩ = ((w.alloc X).alloc Y).cell? ⟨w.heap.size + 1, o, none⟩) ∧ (∀ o, v.frozen? ⟨w.heap.size + 1, o, none⟩ = ((w.alloc X).alloc Y).frozen? ⟨w.heap.size + 1, o, none⟩) ∧ w.heap.size < v.heap.size ∧ w.heap.size + 1 < v.heap.size := by
  have hs : ((w.alloc X).alloc Y).heap.size = w.heap.size + 1 + 1 := by simp
  have h := K.size
  rw [hs] at h
  exact ⟨fun o => K.cell (p := ⟨w.heap.size, o, none⟩) (by rw [hs]; show w.heap.size < _; omega), fun o => K.frozen (p := ⟨w.heap.size, o, none⟩) (by rw [hs]; show w.heap.size < _; omega),
    fun o => K.cell (p := ⟨w.heap.size + 1, o, none⟩) (by rw [hs]; show w.heap.size + 1 < _; omega), fun o => K.frozen (p := ⟨w.heap.size + 1, o, none⟩) (by rw [hs]; show w.heap.size + 1 < _; omega), by omega, by omega⟩
theorem extract_head (s : ByteArray) (p n : Nat) (h : p + n ≤ s.size) : (s.extract p s.size).extract 0 n = s.extract p (p + n) := by
  apply ls_inj
  rw [ls_extract, ls_extract, ls_extract, List.drop_zero, List.take_take]
  congr 1
  omega
theorem extract_tail (s : ByteArray) (p n : Nat) (h : p + n ≤ s.size) : (s.extract p s.size).extract n (s.size - p) = s.extract (p + n) s.size := by
  apply ls_inj
  rw [ls_extract, ls_extract, ls_extract, List.drop_take, List.drop_drop, List.take_take]
  congr 1
  omega
theorem size_extract_to (s : ByteArray) (p : Nat) : (s.extract p s.size).size = s.size - p := by
  rw [ByteArray.size_extract]; omega
theorem isEmpty_size (b : ByteArray) : b.toList.isEmpty = (b.size == 0) := by
  rw [ByteArray.toList_eq, Bool.eq_iff_iff]
  simp only [List.isEmpty_iff, beq_iff_eq]
  rw [← List.length_eq_zero_iff, Array.length_toList]
  rfl
theorem toList_nil (b : ByteArray) : b.toList = [] ↔ b.size = 0 := by
  rw [← List.isEmpty_iff, isEmpty_size]; simp
theorem beq_cast (a b : Nat) : ((a : Int) == (b : Int)) = (a == b) := by rw [Bool.eq_iff_iff]; simp; omega
theorem beq0 (a : Nat) : ((a : Int) == 0) = (a == 0) := beq_cast a 0
theorem size_empty (b : ByteArray) : b = ByteArray.empty ↔ b.size = 0 := by
  refine ⟨fun h => by rw [h]; rfl, fun h => ls_inj ?_⟩
  have : (ls b).length = 0 := by rw [length_ls]; exact h
  rw [List.eq_nil_of_length_eq_zero this]; rfl
theorem take_snoc (s : ByteArray) (k : Nat) (h : k < s.size) : s.data.toList.take (k + 1) = s.data.toList.take k ++ [s[k]] := by
  rw [List.take_succ_eq_append_getElem (by simpa using h)]; rfl
end MS
