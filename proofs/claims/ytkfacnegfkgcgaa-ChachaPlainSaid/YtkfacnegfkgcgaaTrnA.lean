/-
  What is turned by the stream: plain lemmas.
-/
import Derived.Test.YtkfacnegfkgcgaaRBlk
import Derived.Laws.IdiomStrings
namespace Go.Proofs.Ytkfacnegfkgcgaa
open Go.RowKit MS

/-- Byte i of the stream that begins with block c. -/
def ks (k n : ByteArray) (c : W32) (i : Nat) : UInt8 := (ls (blkB (iw k n (c + BitVec.ofNat 32 (i / 64))))).getD (i % 64) 0
/-- The first p bytes are turned. -/
def mixl (l : List UInt8) (f : Nat → UInt8) (p : Nat) : List UInt8 := (List.range l.length).map fun i => if i < p then l.getD i 0 ^^^ f i else l.getD i 0
def trn (l : List UInt8) (f : Nat → UInt8) : List UInt8 := (List.range l.length).map fun i => l.getD i 0 ^^^ f i
theorem length_mixl (l : List UInt8) (f : Nat → UInt8) (p : Nat) : (mixl l f p).length = l.length := by simp [mixl]
theorem length_trn (l : List UInt8) (f : Nat → UInt8) : (trn l f).length = l.length := by simp [trn]
theorem mixl_zero (l : List UInt8) (f : Nat → UInt8) : mixl l f 0 = l := by
  apply List.ext_getElem?
  intro i
  by_cases h : i < l.length
  · simp [mixl, h]
  · simp [mixl, h]
theorem mixl_all (l : List UInt8) (f : Nat → UInt8) (p : Nat) (hp : l.length ≤ p) : mixl l f p = trn l f := by
  unfold mixl trn
  apply List.map_congr_left
  intro i hi
  rw [if_pos (Nat.lt_of_lt_of_le (List.mem_range.1 hi) hp)]
theorem mixl_get (l : List UInt8) (f : Nat → UInt8) (p i : Nat) (h : i < l.length) : (mixl l f p)[i]? = some (if i < p then l.getD i 0 ^^^ f i else l.getD i 0) := by
  simp [mixl, h]
theorem mixl_step (l : List UInt8) (f : Nat → UInt8) (p : Nat) (hp : p < l.length) : (mixl l f p).set p (l.getD p 0 ^^^ f p) = mixl l f (p + 1) := by
  apply List.ext_getElem?
  intro i
  rw [List.getElem?_set, length_mixl]
  by_cases h : i < l.length
  · rw [mixl_get _ _ _ _ h, mixl_get _ _ _ _ h]
    by_cases e : p = i
    · subst e
      rw [if_pos rfl, if_pos hp, if_pos (Nat.lt_succ_self p)]
    · rw [if_neg e]
      congr 1
      by_cases h2 : i < p
      · rw [if_pos h2, if_pos (by omega)]
      · rw [if_neg h2, if_neg (by omega)]
  · rw [if_neg (by omega), List.getElem?_eq_none (by rw [length_mixl]; omega), List.getElem?_eq_none (by rw [length_mixl]; omega)]

theorem iw_list (k n : ByteArray) : ∃ A B : List W32, A.length = 12 ∧ ∀ c, (iw k n c).toList = A ++ c :: B := by
  refine ⟨(List.range 4).map (leW cst) ++ (List.range 8).map (leW k), (List.range 3).map (leW n), by simp, fun c => ?_⟩
  rw [← iw_words]
  simp only [List.append_assoc, List.cons_append, List.nil_append]
theorem iw_set (k n : ByteArray) (c c' : W32) : (iw k n c).setIfInBounds 12 c' = iw k n c' := by
  obtain ⟨A, B, hA, h⟩ := iw_list k n
  apply Array.toList_inj.1
  rw [Array.toList_setIfInBounds, h, h, ← hA]
  simp
theorem iw_get (k n : ByteArray) (c : W32) : (iw k n c).getD 12 0 = c := by
  obtain ⟨A, B, hA, h⟩ := iw_list k n
  rw [Array.getD_eq_getD_getElem?, ← Array.getElem?_toList, h, ← hA]
  simp

theorem iw_cell (k n : ByteArray) (c : W32) : (rowW (iw k n c))[12]? = some (.int .u32 (wv c)) := by
  obtain ⟨A, B, hA, h⟩ := iw_list k n
  rw [rowW, Array.getElem?_map, ← Array.getElem?_toList, h, ← hA]
  simp
theorem b_xor (x y : UInt8) : bits .xor .u8 (x.toNat : Int) (y.toNat : Int) = ((x ^^^ y).toNat : Int) := by
  rw [u8_xor_nat _ _ x.toNat_lt y.toNat_lt, UInt8.toNat_xor]

/-- The bytes' row. -/
def orw (l : List UInt8) (cap : Nat) : Array Value := (l.map valB).toArray ++ Array.replicate (cap - l.length) (.int .u8 0)
theorem orw_get (l : List UInt8) (cap i : Nat) (h : i < l.length) : (orw l cap)[i]? = some (valB (l.getD i 0)) := by
  simp [orw, Array.getElem?_append, h]
theorem orw_set (l : List UInt8) (cap i : Nat) (x : UInt8) (h : i < l.length) : (orw l cap).setIfInBounds i (valB x) = orw (l.set i x) cap := by
  apply Array.toList_inj.1
  simp [orw, h, List.map_set]

structure TSt (B O cap fz : Nat) (w0 : World) (I : Array W32) (l : List UInt8) (w : World) : Prop where
  ne : B ≠ O
  geB : w0.heap.size ≤ B
  geO : w0.heap.size ≤ O
  rs : w.heap[B]? = some (.cells (rowW I) 53 (0, 0))
  ro : w.heap[O]? = some (.cells (orw l cap) 5 (fz, fz + 1))
  fzl : l.length ≤ fz
  bel : Below w0.heap.size w0 w
theorem TSt.carry {B O cap fz : Nat} {w0 w w' : World} {I : Array W32} {l : List UInt8} (h : TSt B O cap fz w0 I l w) (hb : Below w.heap.size w w') : TSt B O cap fz w0 I l w' :=
  ⟨h.ne, h.geB, h.geO, (hb.block B (Array.getElem?_eq_some_iff.1 h.rs).1).trans h.rs, (hb.block O (Array.getElem?_eq_some_iff.1 h.ro).1).trans h.ro, h.fzl, h.bel.trans (hb.mono h.bel.size)⟩
theorem TSt.put {B O cap fz : Nat} {w0 w : World} {I : Array W32} {l : List UInt8} (h : TSt B O cap fz w0 I l w) (i : Nat) (hi : i < l.length) (x : UInt8) : TSt B O cap fz w0 I (l.set i x) (w.setCell ⟨O, i, none⟩ (valB x)) := by
  refine ⟨h.ne, h.geB, h.geO, ?_, ?_, by simpa using h.fzl, h.bel.setCell h.geO _⟩
  · rw [heap_setCell_other _ _ _ _ (by simpa using h.ne)]; exact h.rs
  · rw [setCell_eq_setRow w O i (orw l cap) _ _ _ h.ro, setRow_heap w O _ _ _ _ h.ro, orw_set _ _ _ _ hi]
theorem TSt.count {B O cap fz : Nat} {w0 w : World} {I : Array W32} {l : List UInt8} (h : TSt B O cap fz w0 I l w) (x : W32) : TSt B O cap fz w0 (I.setIfInBounds 12 x) l (w.setCell ⟨B, 12, none⟩ (.int .u32 (wv x))) := by
  refine ⟨h.ne, h.geB, h.geO, ?_, ?_, h.fzl, h.bel.setCell h.geB _⟩
  · rw [heap_setCell_same w B 12 (rowW I) _ _ h.rs, rowW_set]
  · rw [heap_setCell_other _ _ _ _ (by simpa using Ne.symm h.ne)]; exact h.ro
theorem TSt.byte {B O cap fz : Nat} {w0 w : World} {I : Array W32} {l : List UInt8} (h : TSt B O cap fz w0 I l w) (i : Nat) (hi : i < l.length) : w.cell? ⟨O, i, none⟩ = some (.int .u8 ((l.getD i 0).toNat : Int)) := by
  rw [cell_of_row w O i _ _ _ h.ro, orw_get _ _ _ hi]
  rfl
theorem TSt.free {B O cap fz : Nat} {w0 w : World} {I : Array W32} {l : List UInt8} (h : TSt B O cap fz w0 I l w) (i : Nat) (hi : i < l.length) : w.frozen? ⟨O, i, none⟩ = false := by
  have := h.fzl
  simp [World.frozen?, h.ro]
  omega

theorem w_succ (x : W32) : (wv x + 1) % 4294967296 = wv (x + 1) := w_add x 1
def sliceLen : Value → Nat
  | .slice _ n _ => n
  | _ => 0
theorem bytesRow_orw (s : ByteArray) (cap : Nat) : bytesRow s cap = orw (ls s) cap := by
  apply Array.toList_inj.1
  simp [bytesRow, orw, ls, valB]
theorem size_orw (l : List UInt8) (cap : Nat) : l.length ≤ (orw l cap).size := by simp [orw]
theorem tst_start {w w1 : World} (hb : Below w.heap.size w w1) (I : Array W32) (s : ByteArray) (cap : Nat) :
    TSt w1.heap.size (w1.heap.size + 1) cap (bytesRow s cap).size w I (ls s) (((w1.alloc (.cells #[.int .u32 0, .int .u32 0, .int .u32 0, .int .u32 0, .int .u32 0, .int .u32 0, .int .u32 0, .int .u32 0, .int .u32 0, .int .u32 0, .int .u32 0, .int .u32 0, .int .u32 0, .int .u32 0, .int .u32 0, .int .u32 0] 53 (0, 0))).setRow w1.heap.size (rowW I)).alloc (.cells (bytesRow s cap) 5 ((bytesRow s cap).size, (bytesRow s cap).size + 1))).drew := by
  have hz : (#[.int .u32 0, .int .u32 0, .int .u32 0, .int .u32 0, .int .u32 0, .int .u32 0, .int .u32 0, .int .u32 0, .int .u32 0, .int .u32 0, .int .u32 0, .int .u32 0, .int .u32 0, .int .u32 0, .int .u32 0, .int .u32 0] : Array Value) = Array.replicate 16 (.int .u32 0) := rfl
  rw [hz, bytesRow_orw]
  have hfz := size_orw (ls s) cap
  generalize (orw (ls s) cap).size = fz at *
  have h0 := (MapKept.heap_alloc w1 (.cells (Array.replicate 16 (.int .u32 0)) 53 (0, 0))).1
  have h1 := setRow_heap _ _ _ (rowW I) _ _ h0
  have hs : ((w1.alloc (.cells (Array.replicate 16 (.int .u32 0)) 53 (0, 0))).setRow w1.heap.size (rowW I)).heap.size = w1.heap.size + 1 := by simp
  have b1 := below_setRow (below_alloc hb (.cells (Array.replicate 16 (.int .u32 0)) 53 (0, 0))) (g := w1.heap.size) hb.size (rowW I)
  generalize ((w1.alloc (.cells (Array.replicate 16 (.int .u32 0)) 53 (0, 0))).setRow w1.heap.size (rowW I)) = w2 at *
  have h2 := (MapKept.heap_alloc w2 (.cells (orw (ls s) cap) 5 (fz, fz + 1))).1
  have h3 := ((MapKept.heap_alloc w2 (.cells (orw (ls s) cap) 5 (fz, fz + 1))).2 w1.heap.size (by omega)).trans h1
  rw [hs] at h2
  have hz1 := hb.size
  exact ⟨by omega, hz1, by omega, h3, h2, hfz, (below_alloc b1 _).drew⟩
theorem tst_block {B O cap fz : Nat} {w0 w w2 : World} {I : Array W32} {l : List UInt8} (h : TSt B O cap fz w0 I l w) (hb : Below w.heap.size w w2) (X : Obj) (cs : Array Value) :
    TSt B O cap fz w0 I l ((w2.alloc X).setRow w2.heap.size cs) :=
  h.carry (below_setRow (below_alloc hb X) hb.size cs)
theorem TSt.drewN {B O cap fz : Nat} {w0 w : World} {I : Array W32} {l : List UInt8} (h : TSt B O cap fz w0 I l w) (k : Nat) : TSt B O cap fz w0 I l (w.drewN k) :=
  ⟨h.ne, h.geB, h.geO, h.rs, h.ro, h.fzl, ⟨h.bel.os, h.bel.tape, h.bel.output, h.bel.size, h.bel.block⟩⟩
theorem turned_conv {B O cap fz : Nat} {w0 w : World} {I : Array W32} {l : List UInt8} (h : TSt B O cap fz w0 I l w) (n : Nat) (hn : l.length = n) :
    (convert 37 9 (.slice (some ⟨O, 0, none⟩) n cap)).run Try.prog w = .ok (.string (bs l)) w := by
  refine run_bytes_to_string w 37 9 5 Try.underlying37 Try.underlying5 Try.underlying9 O 0 n cap l hn (fun j hj => ?_)
  rw [Nat.zero_add, h.byte j hj]
  simp [hj]
theorem blk_get (S : Array W32) (j : Nat) (hj : j < 64) : (blk S)[j]? = some (.int .u8 (((ls (blkB S)).getD j 0).toNat : Int)) := by
  have hl : (ls (blkB S)).length = 64 := by
    have := size_orow (zz (drs 10 S) S) 16
    rw [show orow (zz (drs 10 S) S) 16 = blk S from rfl, blk_blkB] at this
    simpa using this
  rw [blk_blkB]
  simp [valB, hl, hj]
theorem ks_at (k n : ByteArray) (c : W32) (m j : Nat) (hj : j < 64) : ks k n c (64 * m + j) = (ls (blkB (iw k n (c + BitVec.ofNat 32 m)))).getD j 0 := by
  unfold ks
  rw [show (64 * m + j) / 64 = m by omega, show (64 * m + j) % 64 = j by omega]
theorem count_up (c : W32) (m : Nat) : c + BitVec.ofNat 32 m + 1 = c + BitVec.ofNat 32 (m + 1) := by
  rw [BitVec.add_assoc]
  congr 1
  apply BitVec.eq_of_toNat_eq
  simp [BitVec.toNat_add]
theorem mixl_getD (l : List UInt8) (f : Nat → UInt8) (p : Nat) (h : p < l.length) : (mixl l f p).getD p 0 = l.getD p 0 := by
  rw [List.getD_eq_getElem?_getD, mixl_get _ _ _ _ h, if_neg (Nat.lt_irrefl p)]
  rfl
end Go.Proofs.Ytkfacnegfkgcgaa
