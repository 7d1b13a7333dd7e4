/-
  Texts of this seat, put together (what is needed of them): Kit, Word, QTail, QMid, Util, ShaR, ShaS, ShaB, ShaH, ShaE, ShaU, ShaW, MacM, SameP, MacS, Own2, MacD, OwnF.
-/
import Derived.WalkKit
import Derived.WalkSpells
import Derived.WalkLawsBesides
import Derived.Lib.Hide
import Derived.Lib.ConvBytes
import Derived.Deep.QuietTactic
import Derived.BigQuiet
import Derived.Deep.RegionHeld3
import Derived.Deep.LoopGhost
import Derived.Deep.DeepFit
import Derived.Deep.DeepMust
import Derived.Deep.RegionWith
import Derived.StillTailTactics
import Derived.Laws.ResultCell
import Derived.StillTail
import Derived.Deep.Quiet
import Derived.Test.YtfckjilhkdlpfaaGreatDoorProg
import Derived.BigRegion
import Derived.Deep.AppendLies
import Derived.Laws.IdiomStrings
import Derived.Lib.SmallJoins
import Derived.Lib.BufferWrite
import Derived.Room.AppendStr
import Derived.Laws.AppendOwn
import Derived.ArgAppend
import Derived.Below

namespace MS
open Go Go.RowKit
/-- A list of bytes as a string, and back. -/
def bs (l : List UInt8) : ByteArray := ⟨l.toArray⟩
def ls (s : ByteArray) : List UInt8 := s.data.toList
theorem bs_ls (s : ByteArray) : bs (ls s) = s := rfl
theorem ls_bs (l : List UInt8) : ls (bs l) = l := rfl
theorem size_bs (l : List UInt8) : (bs l).size = l.length := by show l.toArray.size = _; simp
theorem length_ls (s : ByteArray) : (ls s).length = s.size := by show s.data.toList.length = s.data.size; simp
theorem ls_inj {s t : ByteArray} (h : ls s = ls t) : s = t := by rw [← bs_ls s, ← bs_ls t, h]
theorem bs_append (a b : List UInt8) : bs a ++ bs b = bs (a ++ b) := ByteArray.mk_append_mk a b
theorem ls_append (a b : ByteArray) : ls (a ++ b) = ls a ++ ls b := by
  have h := bs_append (ls a) (ls b)
  rw [bs_ls, bs_ls] at h
  rw [h, ls_bs]
theorem ls_extract (s : ByteArray) (a b : Nat) : ls (s.extract a b) = ((ls s).drop a).take (b - a) := by
  rw [← bs_ls s]
  unfold bs
  rw [ByteArray.extract_mk]
  rfl
theorem get_ls (s : ByteArray) (i : Nat) (h : i < s.size) : s[i] = (ls s)[i]'(by rw [length_ls]; exact h) := rfl

theorem fold_push (ns : List UInt8) : ∀ (s : ByteArray), (ns.map (fun b => (b.toNat : Int))).foldl (fun r n => r.push (UInt8.ofNat n.toNat)) s = s ++ bs ns := by
  induction ns with
  | nil => intro s; apply ls_inj; rw [ls_append]; simp [ls_bs]
  | cons b ns ih =>
    intro s
    simp only [List.map_cons, List.foldl_cons]
    rw [ih]
    apply ls_inj
    rw [ls_append, ls_append, ls_bs, ls_bs]
    have : ls (s.push (UInt8.ofNat (b.toNat : Int).toNat)) = ls s ++ [b] := by
      simp [ls, ByteArray.push]
    rw [this]
    simp

/-- 'string(b)' of bytes whose cells are known. -/
theorem run_bytes_to_string {P : Program} (w : World) (src dst e : TypeId) (hs : P.underlying src = some (.slice e)) (he : P.underlying e = some (.int .u8)) (hd : P.underlying dst = some .string)
    (b off len cap : Nat) (l : List UInt8) (hl : l.length = len) (hc : ∀ j (h : j < l.length), w.cell? ⟨b, off + j, none⟩ = some (.int .u8 (l[j].toNat : Int))) :
    (convert src dst (.slice (some ⟨b, off, none⟩) len cap)).run P w = .ok (.string (bs l)) w := by
  subst hl
  rw [run_convert_bytes_string w src dst e _ _ _ hs he hd]
  have hl : (loadCells ⟨b, off, none⟩ l.length).run P w = .ok ((l.map (fun b => (b.toNat : Int))).map (Value.int .u8)).toArray w := by
    have := run_loadCells_list (P := P) w ⟨b, off, none⟩ ((l.map (fun b => (b.toNat : Int))).map (Value.int .u8)) (fun j v hj => by
      simp only [List.map_map, List.getElem?_map, Option.map_eq_some_iff] at hj
      obtain ⟨x, hx, rfl⟩ := hj
      obtain ⟨h, rfl⟩ := List.getElem?_eq_some_iff.1 hx
      have hadd : (⟨b, off, none⟩ : Addr).add j = ⟨b, off + j, none⟩ := by unfold Addr.add; split <;> simp_all
      rw [hadd, hc j h]; rfl)
    simpa using this
  rw [run_bytesToString w _ _ _ _ hl, fold_push]
  congr 2

/-- A block of bytes, whole: what 'string(b)' makes of it. -/
theorem run_block_to_string {P : Program} (w : World) (src dst e : TypeId) (hs : P.underlying src = some (.slice e)) (he : P.underlying e = some (.int .u8)) (hd : P.underlying dst = some .string)
    (b len cap : Nat) (t : TypeId) (fr : Nat × Nat) (l : List UInt8) (cs : Array Value) (hb : w.heap[b]? = some (.cells cs t fr)) (hl : l.length = len) (hc : ∀ j (h : j < l.length), cs[j]? = some (.int .u8 (l[j].toNat : Int))) :
    (convert src dst (.slice (some ⟨b, 0, none⟩) len cap)).run P w = .ok (.string (bs l)) w := by
  refine run_bytes_to_string w src dst e hs he hd b 0 len cap l hl (fun j h => ?_)
  rw [Nat.zero_add, cell_of_row w b j cs t fr hb, hc j h]
/-- 'string([]byte{x})' and 'string([]byte{x, y})' over the block just made. -/
theorem run_one_to_string {P : Program} (src dst e : TypeId) (hs : P.underlying src = some (.slice e)) (he : P.underlying e = some (.int .u8)) (hd : P.underlying dst = some .string) (w : World) (x : UInt8) :
    (convert src dst (.slice (some ⟨w.heap.size, 0, none⟩) 1 1)).run P (w.alloc (.cells #[.int .u8 (x.toNat : Int)] e)) = .ok (.string (bs [x])) (w.alloc (.cells #[.int .u8 (x.toNat : Int)] e)) := by
  refine run_block_to_string _ src dst e hs he hd _ 1 1 e (0, 0) [x] _ (heap_alloc_new w _) rfl (fun j h => ?_)
  match j, h with
  | 0, _ => rfl
theorem run_two_to_string {P : Program} (src dst e : TypeId) (hs : P.underlying src = some (.slice e)) (he : P.underlying e = some (.int .u8)) (hd : P.underlying dst = some .string) (w : World) (x y : UInt8) :
    (convert src dst (.slice (some ⟨w.heap.size, 0, none⟩) 2 2)).run P (w.alloc (.cells #[.int .u8 (x.toNat : Int), .int .u8 (y.toNat : Int)] e)) = .ok (.string (bs [x, y])) (w.alloc (.cells #[.int .u8 (x.toNat : Int), .int .u8 (y.toNat : Int)] e)) := by
  refine run_block_to_string _ src dst e hs he hd _ 2 2 e (0, 0) [x, y] _ (heap_alloc_new w _) rfl (fun j h => ?_)
  match j, h with
  | 0, _ => rfl
  | 1, _ => rfl

theorem u8_of (n : Int) (h0 : 0 ≤ n) (h1 : n ≤ 255) : ((UInt8.ofNat n.toNat).toNat : Int) = n := by
  rw [UInt8.toNat_ofNat']; omega
theorem run_one_int {P : Program} (src dst e : TypeId) (hs : P.underlying src = some (.slice e)) (he : P.underlying e = some (.int .u8)) (hd : P.underlying dst = some .string) (n : Int) (h0 : 0 ≤ n) (h1 : n ≤ 255) (w : World) (b : Nat) (hb : w.heap.size = b) :
    (convert src dst (.slice (some ⟨b, 0, none⟩) 1 1)).run P (w.alloc (.cells #[.int .u8 n] e)) = .ok (.string (bs [UInt8.ofNat n.toNat])) (w.alloc (.cells #[.int .u8 n] e)) := by
  subst hb
  have h := run_one_to_string (P := P) src dst e hs he hd w (UInt8.ofNat n.toNat)
  rwa [u8_of n h0 h1] at h
theorem run_two_int {P : Program} (src dst e : TypeId) (hs : P.underlying src = some (.slice e)) (he : P.underlying e = some (.int .u8)) (hd : P.underlying dst = some .string) (n m : Int) (h0 : 0 ≤ n) (h1 : n ≤ 255) (h2 : 0 ≤ m) (h3 : m ≤ 255) (w : World) (b : Nat) (hb : w.heap.size = b) :
    (convert src dst (.slice (some ⟨b, 0, none⟩) 2 2)).run P (w.alloc (.cells #[.int .u8 n, .int .u8 m] e)) = .ok (.string (bs [UInt8.ofNat n.toNat, UInt8.ofNat m.toNat])) (w.alloc (.cells #[.int .u8 n, .int .u8 m] e)) := by
  subst hb
  have h := run_two_to_string (P := P) src dst e hs he hd w (UInt8.ofNat n.toNat) (UInt8.ofNat m.toNat)
  rwa [u8_of n h0 h1, u8_of m h2 h3] at h

theorem bcell {W w1 : World} (hb : Below W.heap.size W w1) : (∀ b o, b < W.heap.size → w1.cell? ⟨b, o, none⟩ = W.cell? ⟨b, o, none⟩) ∧ (∀ b o, b < W.heap.size → w1.frozen? ⟨b, o, none⟩ = W.frozen? ⟨b, o, none⟩) :=
  ⟨fun b o h => hb.cell (p := ⟨b, o, none⟩) h, fun b o h => hb.frozen (p := ⟨b, o, none⟩) h⟩
theorem below_chain {w a b : World} (h : Below w.heap.size w a) (h2 : Below a.heap.size a b) : Below w.heap.size w b := h.trans (h2.mono h.size)
theorem below_alloc {w a : World} (h : Below w.heap.size w a) (o : Obj) : Below w.heap.size w (a.alloc o) := h.alloc h.size o
theorem below_setCell {w a : World} (h : Below w.heap.size w a) {p : Addr} (hp : w.heap.size ≤ p.block) (u : Value) : Below w.heap.size w (a.setCell p u) := h.setCell hp u
theorem extract_head (s : ByteArray) (p n : Nat) (h : p + n ≤ s.size) : (s.extract p s.size).extract 0 n = s.extract p (p + n) := by
  apply ls_inj
  rw [ls_extract, ls_extract, ls_extract, List.drop_zero, List.take_take]
  congr 1
  omega
theorem extract_tail (s : ByteArray) (p n : Nat) (h : p + n ≤ s.size) : (s.extract p s.size).extract n (s.size - p) = s.extract (p + n) s.size := by
  apply ls_inj
  rw [ls_extract, ls_extract, ls_extract, List.drop_take, List.drop_drop, List.take_take]
  congr 1
  omega
theorem size_extract_to (s : ByteArray) (p : Nat) : (s.extract p s.size).size = s.size - p := by
  rw [ByteArray.size_extract]; omega
theorem isEmpty_size (b : ByteArray) : b.toList.isEmpty = (b.size == 0) := by
  rw [ByteArray.toList_eq, Bool.eq_iff_iff]
  simp only [List.isEmpty_iff, beq_iff_eq]
  rw [← List.length_eq_zero_iff, Array.length_toList]
  rfl
theorem toList_nil (b : ByteArray) : b.toList = [] ↔ b.size = 0 := by
  rw [← List.isEmpty_iff, isEmpty_size]; simp
theorem beq_cast (a b : Nat) : ((a : Int) == (b : Int)) = (a == b) := by rw [Bool.eq_iff_iff]; simp; omega
theorem beq0 (a : Nat) : ((a : Int) == 0) = (a == 0) := beq_cast a 0
theorem size_empty (b : ByteArray) : b = ByteArray.empty ↔ b.size = 0 := by
  refine ⟨fun h => by rw [h]; rfl, fun h => ls_inj ?_⟩
  have : (ls b).length = 0 := by rw [length_ls]; exact h
  rw [List.eq_nil_of_length_eq_zero this]; rfl
theorem take_snoc (s : ByteArray) (k : Nat) (h : k < s.size) : s.data.toList.take (k + 1) = s.data.toList.take k ++ [s[k]] := by
  rw [List.take_succ_eq_append_getElem (by simpa using h)]; rfl
end MS

namespace MS
open Go Go.RowKit
abbrev W32 := BitVec 32
/-- A word's number. -/
def wv (x : W32) : Int := (x.toNat : Int)
theorem w_add (x y : W32) : (wv x + wv y) % 4294967296 = wv (x + y) := by
  unfold wv; rw [BitVec.toNat_add]; omega
theorem w_xor (x y : W32) : bits .xor .u32 (wv x) (wv y) = wv (x ^^^ y) := by
  unfold wv; rw [u32_xor_nat _ _ x.isLt y.isLt, BitVec.toNat_xor]
theorem w_or (x y : W32) : bits .or .u32 (wv x) (wv y) = wv (x ||| y) := by
  unfold wv; rw [u32_or_nat _ _ x.isLt y.isLt, BitVec.toNat_or]
theorem w_and (x y : W32) : bits .and .u32 (wv x) (wv y) = wv (x &&& y) := by
  unfold wv; rw [u32_and_nat _ _ x.isLt y.isLt, BitVec.toNat_and]
/-- A turn to the left by n places, as the walk writes it. -/
theorem w_rot (x : W32) (n m : Nat) (h : n < 32) (hm : n + m = 32) (a b : Int) (ha : a = ((x.toNat * 2 ^ n % 2 ^ 32 : Nat) : Int)) (hb : b = ((x.toNat / 2 ^ m : Nat) : Int)) :
    bits .or .u32 a b = wv (x.rotateLeft n) := by
  subst ha; subst hb
  have h1 : x.toNat * 2 ^ n % 2 ^ 32 < 4294967296 := Nat.mod_lt _ (by decide)
  have h2 : x.toNat / 2 ^ m < 4294967296 := Nat.lt_of_le_of_lt (Nat.div_le_self _ _) x.isLt
  unfold wv
  rw [u32_or_nat _ _ h1 h2, BitVec.rotateLeft_def, Nat.mod_eq_of_lt h, BitVec.toNat_or, BitVec.toNat_shiftLeft, BitVec.toNat_ushiftRight, Nat.shiftLeft_eq, Nat.shiftRight_eq_div_pow, show 32 - n = m by omega]
theorem w_sub (x y : W32) : (wv x - wv y) % 4294967296 = wv (x - y) := by
  unfold wv; rw [BitVec.toNat_sub]; have := x.isLt; have := y.isLt; omega
end MS

namespace MS
open Go Go.RowKit
section
variable {P : Program} {ops : Array Oper} {md : Region.Mode} {C : World → Prop}
def wpAnyLQ (P : Program) (md : Region.Mode) (ops : Array Oper) (C : World → Prop) (n : Nat) (L : Array Bool → Act → Prop) : Nat → Array Bool → Act → Prop
  | 0, listed, a => L listed a
  | f + 1, listed, a =>
    Region.ready md ops listed ≠ [] ∧ ∀ i ∈ Region.ready md ops listed, i < n ∧ qOp P ops C i (wpAnyLQ P md ops C n L f (listed.setIfInBounds i true)) a

theorem wpAny_of_headQ {n g : Nat} {L : Array Bool → Act → Prop} {Q' : Exit → Act → World → Prop} (hL : ∀ listed a w, C w → L listed a → wpAny P md ops Q' g listed a w) :
    ∀ (f : Nat) (listed : Array Bool) (a : Act) (w : World), C w → wpAnyLQ P md ops C n L f listed a → wpAny P md ops Q' (f + g) listed a w
  | 0, listed, a, w, hw, h => by rw [Nat.zero_add]; exact hL _ _ _ hw h
  | f + 1, listed, a, w, hw, h => by
    rw [show f + 1 + g = (f + g) + 1 by omega]
    exact ⟨fun h0 => absurd h0 h.1, fun i hi => wpOp_of_qOp hw (fun a' w' hw' h' => wpAny_of_headQ hL f _ a' w' hw' h') (h.2 i hi).2⟩

theorem wpAnyLQ_first {n i : Nat} {oi : Oper} {v : Value} {L : Array Bool → Act → Prop} (hi : ops[i]? = some oi) (hsel : ∀ (j : Nat) (o : Oper) cs b, ops[j]? = some o → o.op ≠ .select cs b)
    (hs : Region.sinkB md ops n = true) (hc : Region.chainB md ops n = true) (hn : n < ops.size) (hin : i < n)
    (hdone : ∀ listed a, L listed a → ∀ j ∈ Region.ready md ops listed, n ≤ j) :
    ∀ (f : Nat) (listed : Array Bool) (a : Act), HeadInv md ops n listed →
      (∀ j oj, ops[j]? = some oj → j ≠ i → listed.getD j true = false → (∀ e ∈ oj.after, Region.binds md e = true → e.on ≠ i) → oi.apart ops oj = true) →
      i ∈ Region.ready md ops listed → YieldsIn P ops C oi v a →
      wpAnyLQ P md ops C n L f (listed.setIfInBounds i true) (a.put oi.dst v) → wpAnyLQ P md ops C n L (f + 1) listed a := by
  intro f
  induction f with
  | zero =>
    intro listed a inv _ hr hy H
    have hun := (mem_ready.1 hr).1
    refine ⟨fun h => (by rw [h] at hr; cases hr), fun j hj => ?_⟩
    have hjn : j < n := by
      rcases Nat.lt_or_ge j n with h | h
      · exact h
      · exact absurd hj (tail_waits hs hc hn inv _ i rfl hin hun j h)
    refine ⟨hjn, ?_⟩
    by_cases hji : j = i
    · subst hji; exact hy.qOp hi H
    · have := hdone _ _ H j (ready_mono hj hji)
      omega
  | succ f ih =>
    intro listed a inv hfree hr hy H
    have hun := (mem_ready.1 hr).1
    refine ⟨fun h => (by rw [h] at hr; cases hr), fun j hj => ?_⟩
    have hjn : j < n := by
      rcases Nat.lt_or_ge j n with h | h
      · exact h
      · exact absurd hj (tail_waits hs hc hn inv _ i rfl hin hun j h)
    refine ⟨hjn, ?_⟩
    by_cases hji : j = i
    · subst hji; exact hy.qOp hi H
    · have h1 := (H.2 j (ready_mono hj hji)).2
      obtain ⟨hjun, oj, hoj, hall⟩ := mem_ready.1 hj
      have hnot : ∀ e ∈ oj.after, Region.binds md e = true → e.on ≠ i := fun e he hb heq => by
        have h1 := hall e he hb
        rw [heq, getD_both hun] at h1
        cases h1
      have h2 := qOp_put hoj (hfree j oj hoj hji hjun hnot) (fun cs b => hsel i oi cs b hi) (fun cs b => hsel j oj cs b hoj) hy h1
      have hfree' : ∀ k ok, ops[k]? = some ok → k ≠ i → (listed.setIfInBounds j true).getD k true = false →
          (∀ e ∈ ok.after, Region.binds md e = true → e.on ≠ i) → oi.apart ops ok = true := fun k ok hk hki hun hno => by
        refine hfree k ok hk hki ?_ hno
        by_cases hjk : j = k
        · subst hjk; exact hjun
        · rw [getD_set_ne true hjk] at hun; exact hun
      refine qOp_mono (fun a' h3 => ih (listed.setIfInBounds j true) a' (inv.set hj hjn) hfree' (ready_mono hr (Ne.symm hji)) h3.1 ?_) h2
      rw [Array.setIfInBounds_comm _ _ hji]
      exact h3.2

theorem wpAnyLQ_lex {n g : Nat} {Lq : Act → Prop} (hsel : Region.noSelect ops = true) (hs : Region.sinkB md ops n = true) (hc : Region.chainB md ops n = true) (hn : n < ops.size) :
    ∀ (l : List Oper) (k : Nat) (listed : Array Bool) (a : Act), (∀ j, j < l.length → l[j]? = ops[k + j]?) → k + l.length = n → HeadInv md ops n listed →
    Region.lexHead md ops g l.length k listed = true → wpQuiet P ops C Lq l a →
    wpAnyLQ P md ops C n (fun listed' a' => Region.seqB md ops g n listed' = true ∧ Lq a') l.length listed a
  | [], k, listed, a, _, hk, _, hB, h => by
    have : k = n := by simpa using hk
    subst this
    exact ⟨by simpa [Region.lexHead] using hB, h⟩
  | o :: l, k, listed, a, hl, hk, inv, hB, h => by
    have h0 : ops[k]? = some o := by simpa using (hl 0 (by simp)).symm
    simp only [List.length_cons, Region.lexHead, Bool.and_eq_true] at hB
    obtain ⟨⟨hr, hf⟩, hB'⟩ := hB
    have hkn : k < n := by simp only [List.length_cons] at hk; omega
    have hr' : k ∈ Region.ready md ops listed := by simpa using hr
    have hst : qOp P ops C k (wpQuiet P ops C Lq l) a := by unfold qOp; simp only [h0]; exact h
    obtain ⟨v, hy, hK⟩ := yieldsIn_of_qOp h0 hst
    exact wpAnyLQ_first h0 (Region.noSelect_spec hsel) hs hc hn hkn (fun listed' a' hL => seqB_ready hL.1) l.length listed a inv (Region.free_spec h0 hf) hr' hy
      (wpAnyLQ_lex hsel hs hc hn l (k + 1) _ _ (fun j hj => by have := hl (j + 1) (by simp; omega); simpa [Nat.add_assoc, Nat.add_comm 1 j] using this) (by simp only [List.length_cons] at hk; omega) (inv.set hr' hkn) hB' hK)

theorem wp_region_quiet_tail {id : Nat} {Q : Exit → Act → World → Prop} {a : Act} {w : World} {l : List Oper} (n : Nat) (C : World → Prop) (hm : P.follows .mixedOrders = true) (hB : Region.lexTailB .any l.toArray n = true) (hC : C w.drew)
    (h : wpQuiet P l.toArray C (fun a' => ∀ w', C w' → wpList P l.toArray Q (l.drop n) a' w') (l.take n) a) : (Code.region id l.toArray true).wp P Q a w := by
  simp only [Region.lexTailB, Bool.and_eq_true, decide_eq_true_eq] at hB
  obtain ⟨⟨⟨⟨hsel, hn⟩, hs⟩, hc⟩, hlex⟩ := hB
  have hn' : n < l.length := by simpa using hn
  have htl : (l.take n).length = n := by simp; omega
  have hdl : (l.drop n).length = l.toArray.size - n := by simp
  have inv0 : HeadInv .any l.toArray n (Array.replicate l.toArray.size false) :=
    ⟨by simp, fun j oj _ hl => (by rw [getD_replicate_false] at hl; cases hl), fun t _ ht => getD_in (by simpa using ht) (getD_replicate_false _ _)⟩
  have H := wpAnyLQ_lex (md := .any) (g := l.toArray.size - n) hsel hs hc hn (l.take n) 0 _ a (fun j hj => by
    have hj' : j < n := by rw [htl] at hj; exact hj
    simp [hj']) (by simpa using htl) inv0 (by rw [htl]; exact hlex) h
  refine wp_region_any hm ?_
  have := wpAny_of_headQ (Q' := Q) (g := l.toArray.size - n) (fun listed a' w' hw' hL => by
    have := wpAny_of_seq (md := .any) (Q' := Q) (l.drop n) n listed a' w' (fun j => by simp [List.getElem?_drop]) (by rw [hdl]; exact hL.1) (hL.2 w' hw')
    rwa [hdl] at this) _ _ _ w.drew hC H
  rw [htl, show n + (l.toArray.size - n) = l.toArray.size by omega] at this
  exact this

/-- The class of the worlds behind some draws. -/
theorem wp_region_draws_tail {id : Nat} {Q : Exit → Act → World → Prop} {a : Act} {w : World} {l : List Oper} (n : Nat) (hm : P.follows .mixedOrders = true) (hB : Region.lexTailB .any l.toArray n = true)
    (h : wpQuiet P l.toArray (fun w' => ∃ k, w' = w.drewN k) (fun a' => ∀ w', (∃ k, w' = w.drewN k) → wpList P l.toArray Q (l.drop n) a' w') (l.take n) a) : (Code.region id l.toArray true).wp P Q a w :=
  wp_region_quiet_tail n _ hm hB ⟨1, rfl⟩ h
end
end MS

namespace MS
open Go Go.RowKit
section
variable {P : Program} {ops : Array Oper} {md : Region.Mode} {C : World → Prop}
structure MidInv (md : Region.Mode) (ops : Array Oper) (base : Array Bool) (k n : Nat) (listed : Array Bool) : Prop where
  closed : ∀ j oj, ops[j]? = some oj → listed.getD j false = true → ∀ e ∈ oj.after, Region.binds md e = true → listed.getD e.on false = true
  rest : ∀ t, ¬ (k ≤ t ∧ t < n) → listed.getD t true = base.getD t true

theorem MidInv.set {base : Array Bool} {k n i : Nat} {listed : Array Bool} (inv : MidInv md ops base k n listed) (hi : i ∈ Region.ready md ops listed) (hin : k ≤ i ∧ i < n) : MidInv md ops base k n (listed.setIfInBounds i true) := by
  obtain ⟨_, oi, hoi, hall⟩ := mem_ready.1 hi
  refine ⟨fun j oj hj hl e he hb => ?_, fun t ht => by rw [getD_set_ne true (by intro e; subst e; exact ht hin)]; exact inv.rest t ht⟩
  by_cases hij : i = j
  · subst hij
    have : oj = oi := Option.some.inj (hj.symm.trans hoi)
    subst this
    exact getD_set_true (hall e he hb)
  · rw [getD_set_ne false hij] at hl
    exact getD_set_true (inv.closed j oj hj hl e he hb)

def midB (md : Region.Mode) (ops : Array Oper) (base : Array Bool) (k n : Nat) : Bool :=
  decide (k < n) && decide (n ≤ ops.size) &&
  ((List.range ops.size).all fun t => (decide (k ≤ t) && decide (t < n)) || base.getD t true || ((List.range ops.size).any fun j => !(decide (k ≤ j) && decide (j < n)) && !base.getD j true && Region.waitsFor md ops t j) ||
    ((List.range n).all fun i => decide (i < k) || ((List.range n).any fun j => decide (i < j) && Region.waitsFor md ops j i) || Region.waitsFor md ops t i)) &&
  decide (0 < n) &&
  ((List.range ops.size).all fun j => !base.getD j false || match ops[j]? with | some o => o.after.all fun e => !Region.binds md e || base.getD e.on false | none => true)

theorem mid_waits {base : Array Bool} {k n : Nat} {listed : Array Bool} (hB : midB md ops base k n = true) (inv : MidInv md ops base k n listed) {i t : Nat} (hi : k ≤ i ∧ i < n) (hun : listed.getD i true = false)
    (ht : t ∈ Region.ready md ops listed) : k ≤ t ∧ t < n := by
  simp only [midB, Bool.and_eq_true, decide_eq_true_eq, List.all_eq_true, List.mem_range, Bool.or_eq_true, List.any_eq_true] at hB
  obtain ⟨⟨⟨⟨hkn, hn⟩, hT⟩, _⟩, _⟩ := hB
  obtain ⟨htun, ot, hot, hall⟩ := mem_ready.1 ht
  have htlt : t < ops.size := (Array.getElem?_eq_some_iff.1 hot).1
  refine Classical.byContradiction fun hno => ?_
  have dep : ∀ j, Region.waitsFor md ops t j = true → listed.getD j false = true := by
    intro j hw
    obtain ⟨ot', hot', e, he, hb, heq⟩ := Region.waitsFor_spec hw
    have : ot' = ot := Option.some.inj (hot'.symm.trans hot)
    subst this
    rw [← heq]
    exact hall e he hb
  have hS : ∀ x, x < n → (x < k ∨ ∃ j, j < n ∧ x < j ∧ Region.waitsFor md ops j x = true) ∨ Region.waitsFor md ops t x = true := by
    rcases hT t htlt with ((h | h) | ⟨j, _, ⟨h1, h2⟩, h3⟩) | h
    · exact absurd h hno
    · rw [inv.rest t hno, h] at htun; cases htun
    · have h4 := dep j h3
      have h5 : ¬ (k ≤ j ∧ j < n) := by
        intro hc
        simp [hc.1, hc.2] at h1
      have h6 := inv.rest j h5
      have h7 : base.getD j true = false := by simpa using h2
      rw [h7] at h6
      rw [getD_both h6] at h4
      cases h4
    · exact h
  have key : ∀ d j, n - j = d → k ≤ j → j < n → listed.getD j false = true := by
    intro d
    induction d using Nat.strongRecOn with
    | _ d ih =>
      intro j hd hj hjn
      rcases hS j hjn with (h | ⟨j', hj', hlt, hw'⟩) | h
      · omega
      · obtain ⟨oj, hoj, e, he, hb, heq⟩ := Region.waitsFor_spec hw'
        have := ih (n - j') (by omega) j' rfl (by omega) hj'
        rw [← heq]
        exact inv.closed j' oj hoj this e he hb
      · exact dep j h
  have := key _ i rfl hi.1 hi.2
  rw [getD_both hun] at this
  cases this

def wpAnyLM (P : Program) (md : Region.Mode) (ops : Array Oper) (C : World → Prop) (k n : Nat) (L : Array Bool → Act → Prop) : Nat → Array Bool → Act → Prop
  | 0, listed, a => L listed a
  | f + 1, listed, a =>
    Region.ready md ops listed ≠ [] ∧ ∀ i ∈ Region.ready md ops listed, (k ≤ i ∧ i < n) ∧ qOp P ops C i (wpAnyLM P md ops C k n L f (listed.setIfInBounds i true)) a

theorem wpAny_of_mid {k n g : Nat} {L : Array Bool → Act → Prop} {Q' : Exit → Act → World → Prop} (hL : ∀ listed a w, C w → L listed a → wpAny P md ops Q' g listed a w) :
    ∀ (f : Nat) (listed : Array Bool) (a : Act) (w : World), C w → wpAnyLM P md ops C k n L f listed a → wpAny P md ops Q' (f + g) listed a w
  | 0, listed, a, w, hw, h => by rw [Nat.zero_add]; exact hL _ _ _ hw h
  | f + 1, listed, a, w, hw, h => by
    rw [show f + 1 + g = (f + g) + 1 by omega]
    exact ⟨fun h0 => absurd h0 h.1, fun i hi => wpOp_of_qOp hw (fun a' w' hw' h' => wpAny_of_mid hL f _ a' w' hw' h') (h.2 i hi).2⟩

theorem wpAnyLM_first {base : Array Bool} {k n i : Nat} {oi : Oper} {v : Value} {L : Array Bool → Act → Prop} (hi : ops[i]? = some oi) (hsel : ∀ (j : Nat) (o : Oper) cs b, ops[j]? = some o → o.op ≠ .select cs b)
    (hB : midB md ops base k n = true) (hin : k ≤ i ∧ i < n)
    (hdone : ∀ listed a, L listed a → ∀ j ∈ Region.ready md ops listed, ¬ (k ≤ j ∧ j < n)) :
    ∀ (f : Nat) (listed : Array Bool) (a : Act), MidInv md ops base k n listed →
      (∀ j oj, ops[j]? = some oj → j ≠ i → listed.getD j true = false → (∀ e ∈ oj.after, Region.binds md e = true → e.on ≠ i) → oi.apart ops oj = true) →
      i ∈ Region.ready md ops listed → YieldsIn P ops C oi v a →
      wpAnyLM P md ops C k n L f (listed.setIfInBounds i true) (a.put oi.dst v) → wpAnyLM P md ops C k n L (f + 1) listed a := by
  intro f
  induction f with
  | zero =>
    intro listed a inv _ hr hy H
    have hun := (mem_ready.1 hr).1
    refine ⟨fun h => (by rw [h] at hr; cases hr), fun j hj => ?_⟩
    have hjn := mid_waits hB inv hin hun hj
    refine ⟨hjn, ?_⟩
    by_cases hji : j = i
    · subst hji; exact hy.qOp hi H
    · exact absurd hjn (hdone _ _ H j (ready_mono hj hji))
  | succ f ih =>
    intro listed a inv hfree hr hy H
    have hun := (mem_ready.1 hr).1
    refine ⟨fun h => (by rw [h] at hr; cases hr), fun j hj => ?_⟩
    have hjn := mid_waits hB inv hin hun hj
    refine ⟨hjn, ?_⟩
    by_cases hji : j = i
    · subst hji; exact hy.qOp hi H
    · have h1 := (H.2 j (ready_mono hj hji)).2
      obtain ⟨hjun, oj, hoj, hall⟩ := mem_ready.1 hj
      have hnot : ∀ e ∈ oj.after, Region.binds md e = true → e.on ≠ i := fun e he hb heq => by
        have h1 := hall e he hb
        rw [heq, getD_both hun] at h1
        cases h1
      have h2 := qOp_put hoj (hfree j oj hoj hji hjun hnot) (fun cs b => hsel i oi cs b hi) (fun cs b => hsel j oj cs b hoj) hy h1
      have hfree' : ∀ k ok, ops[k]? = some ok → k ≠ i → (listed.setIfInBounds j true).getD k true = false →
          (∀ e ∈ ok.after, Region.binds md e = true → e.on ≠ i) → oi.apart ops ok = true := fun k ok hk hki hun hno => by
        refine hfree k ok hk hki ?_ hno
        by_cases hjk : j = k
        · subst hjk; exact hjun
        · rw [getD_set_ne true hjk] at hun; exact hun
      refine qOp_mono (fun a' h3 => ih (listed.setIfInBounds j true) a' (inv.set hj hjn) hfree' (ready_mono hr (Ne.symm hji)) h3.1 ?_) h2
      rw [Array.setIfInBounds_comm _ _ hji]
      exact h3.2

def midLex (md : Region.Mode) (ops : Array Oper) (final : Array Bool) : Nat → Nat → Array Bool → Bool
  | 0, _, listed => listed == final
  | f + 1, k, listed => (Region.ready md ops listed).contains k && Region.free md ops listed k && midLex md ops final f (k + 1) (listed.setIfInBounds k true)

theorem wpAnyLM_lex {base final : Array Bool} {k0 n : Nat} {Lq : Act → Prop} (hsel : Region.noSelect ops = true) (hB : midB md ops base k0 n = true)
    (hfin : ∀ j ∈ Region.ready md ops final, ¬ (k0 ≤ j ∧ j < n)) :
    ∀ (l : List Oper) (k : Nat) (listed : Array Bool) (a : Act), (∀ j, j < l.length → l[j]? = ops[k + j]?) → k + l.length = n → k0 ≤ k → MidInv md ops base k0 n listed →
    midLex md ops final l.length k listed = true → wpQuiet P ops C Lq l a →
    wpAnyLM P md ops C k0 n (fun listed' a' => listed' = final ∧ Lq a') l.length listed a
  | [], k, listed, a, _, hk, _, inv, hL, h => by
    exact ⟨by simpa [midLex] using hL, h⟩
  | o :: l, k, listed, a, hl, hk, hk0, inv, hL, h => by
    have h0 : ops[k]? = some o := by simpa using (hl 0 (by simp)).symm
    simp only [List.length_cons, midLex, Bool.and_eq_true] at hL
    obtain ⟨⟨hr, hf⟩, hL'⟩ := hL
    have hkn : k0 ≤ k ∧ k < n := by simp only [List.length_cons] at hk; omega
    have hr' : k ∈ Region.ready md ops listed := by simpa using hr
    have hst : qOp P ops C k (wpQuiet P ops C Lq l) a := by unfold qOp; simp only [h0]; exact h
    obtain ⟨v, hy, hK⟩ := yieldsIn_of_qOp h0 hst
    exact wpAnyLM_first h0 (Region.noSelect_spec hsel) hB hkn (fun listed' a' hL => by rw [hL.1]; exact hfin) l.length listed a inv (Region.free_spec h0 hf) hr' hy
      (wpAnyLM_lex hsel hB hfin l (k + 1) _ _ (fun j hj => by have := hl (j + 1) (by simp; omega); simpa [Nat.add_assoc, Nat.add_comm 1 j] using this) (by simp only [List.length_cons] at hk; omega) (by omega) (inv.set hr' hkn) hL' hK)

/-- THE LAW. -/
theorem wpAny_quiet_mid {Q : Exit → Act → World → Prop} {a : Act} {w : World} {l : List Oper} {base : Array Bool} {f : Nat} (C : World → Prop) (final : Array Bool) (k m g : Nat)
    (hsel : Region.noSelect l.toArray = true) (hB : midB md l.toArray base k (k + m) = true) (hlex : midLex md l.toArray final m k base = true)
    (hfin : (Region.ready md l.toArray final).all (fun j => !(decide (k ≤ j) && decide (j < k + m))) = true) (hf : f = m + g) (hC : C w)
    (h : wpQuiet P l.toArray C (fun a' => ∀ w', C w' → wpAny P md l.toArray Q g final a' w') ((l.drop k).take m) a) : wpAny P md l.toArray Q f base a w := by
  subst hf
  have hB' := hB
  simp only [midB, Bool.and_eq_true, decide_eq_true_eq, List.all_eq_true, List.mem_range, Bool.or_eq_true, List.any_eq_true] at hB'
  obtain ⟨⟨⟨⟨hkn, hn⟩, _⟩, _⟩, hcl⟩ := hB'
  have hn' : k + m ≤ l.length := by simpa using hn
  have hlen : ((l.drop k).take m).length = m := by simp; omega
  have hsz : ∀ j, base.getD j false = true → j < l.toArray.size → ∀ oj, l.toArray[j]? = some oj → ∀ e ∈ oj.after, Region.binds md e = true → base.getD e.on false = true := by
    intro j hj hlt oj hoj e he hb
    have := hcl j hlt
    simp only [hoj, hj, Bool.not_true, Bool.false_eq_true, false_or, Array.all_eq_true_iff_forall_mem, Bool.or_eq_true, Bool.not_eq_true'] at this
    rcases this e he with h | h
    · rw [h] at hb; cases hb
    · exact h
  have inv0 : MidInv md l.toArray base k (k + m) base :=
    ⟨fun j oj hj hl e he hb => hsz j hl (Array.getElem?_eq_some_iff.1 hj).1 oj hj e he hb, fun t _ => rfl⟩
  have H := wpAnyLM_lex (P := P) (md := md) hsel hB (fun j hj => by
    have := List.all_eq_true.1 hfin j hj
    simp at this
    omega) ((l.drop k).take m) k base a (fun j hj => by
      rw [hlen] at hj
      simp [hj]) (by rw [hlen]) (Nat.le_refl _) inv0 (by rw [hlen]; exact hlex) h
  rw [hlen] at H
  exact wpAny_of_mid (fun listed a' w' hw' hL => by rw [hL.1]; exact hL.2 w' hw') m base a w hC H
end
end MS

namespace Go.Proofs.YtfckjilhkdlpfaaGreatDoor
open Go.RowKit MS
def rowW (s : Array W32) : Array Value := s.map (fun x => .int .u32 (wv x))
theorem size_rowW (s : Array W32) : (rowW s).size = s.size := by simp [rowW]
theorem rowW_set (s : Array W32) (i : Nat) (x : W32) : (rowW s).setIfInBounds i (.int .u32 (wv x)) = rowW (s.setIfInBounds i x) := by
  simp [rowW, Array.map_setIfInBounds]
theorem one_rowW (s : Array W32) : (rowW s).all (·.oneCell') = true := by simp [rowW, Value.oneCell']
theorem rowW_get (s : Array W32) (i : Nat) (h : i < s.size) : (rowW s)[i]? = some (.int .u32 (wv (s.getD i 0))) := by simp [rowW, h]
theorem wpAny_take_at {P : Program} {ops : Array Oper} {md : Region.Mode} {Q : Exit → Act → World → Prop} {i d : Nat} {oi : Oper} {v : Value} {fuel : Nat} {listed : Array Bool} {a : Act} {w : World} (hi : ops[i]? = some oi)
    (hs : Region.noSelect ops = true) (hf : Region.free md ops listed i = true) (hr : (Region.ready md ops listed).contains i = true)
    (hQ : ∀ c a w, Q (.panic c) (a.put (some d) v) w → Q (.panic c) a w) (hd : oi.dst = some d) (hy : Yields P ops oi v a)
    (h : wpAny P md ops Q fuel (listed.setIfInBounds i true) (a.put (some d) v) w) : wpAny P md ops Q (fuel + 1) listed a w :=
  wpAny_take hi hs hf hr (by rw [hd]; exact hQ) hy (by rw [hd]; exact h)
theorem wpAny_tail {P : Program} {md : Region.Mode} {Q : Exit → Act → World → Prop} {l : List Oper} {listed : Array Bool} {a : Act} {w : World} (n g : Nat) (hB : Region.seqB md l.toArray g n listed = true) (hg : (l.drop n).length = g)
    (h : wpList P l.toArray Q (l.drop n) a w) : wpAny P md l.toArray Q g listed a w := by
  subst hg
  exact wpAny_of_seq (l.drop n) n listed a w (fun j => by simp [List.getElem?_drop]) hB h
theorem below_setRow {B g : Nat} {w0 w : World} (h : Below B w0 w) (hg : B ≤ g) (cs : Array Value) : Below B w0 (w.setRow g cs) :=
  ⟨h.os, h.tape, h.output, by simpa using h.size, fun k hk => by rw [setRow_other _ _ _ _ (by omega)]; exact h.block k hk⟩
theorem below_drewN {B : Nat} {w0 w : World} (h : Below B w0 w) (k : Nat) : Below B w0 (w.drewN k) := ⟨h.os, h.tape, h.output, h.size, h.block⟩

def valB (b : UInt8) : Value := .int .u8 (b.toNat : Int)
def vls (l : List UInt8) : List Value := l.map valB
theorem vls_app (l : List UInt8) (b : UInt8) : vls (l ++ [b]) = vls l ++ [valB b] := by simp [vls]
def wvs (l : List W32) : List Value := l.map (fun x => .int .u32 (wv x))
theorem one_cell (w : World) (x : Value) (T : Nat) : ∀ j u, [x][j]? = some u → (w.alloc (.cells #[x] T (0, 0))).cell? ((⟨w.heap.size, 0, none⟩ : Addr).add j) = some u := by
  intro j u hu
  obtain ⟨rfl, rfl⟩ : j = 0 ∧ u = x := by
    cases j with
    | zero => exact ⟨rfl, by simpa using hu.symm⟩
    | succ m => simp at hu
  exact cell_of_row _ _ _ _ _ _ (MapKept.heap_alloc w _).1
theorem one_one (x : Value) (h : x.oneCell' = true) : ∀ u ∈ [x], u.oneCell' = true := by
  intro u hu
  rw [List.mem_singleton.1 hu]
  exact h
theorem le_alloc {B : Nat} {w : World} (h : B ≤ w.heap.size) (o : Obj) : B ≤ (w.alloc o).heap.size := by
  rw [World.size_alloc]
  exact Nat.le_succ_of_le h
theorem below_app {w0 wr w' : World} (hb : Below w0.heap.size w0 wr) (o : Obj) (v : Value) (n : Nat) (e : TypeId) (xs : List Value) (ho : wr.ownsRow w0.heap.size e 1 v n xs) (hg : (wr.alloc o).grownBy w' v.ownBlock) : Below w0.heap.size w0 w' :=
  (below_alloc hb o).grown hg (by rw [World.size_alloc]; exact Nat.le_succ_of_le hb.size) (fun m hm => (ho.lt m hm).1)
theorem conv_out {B2 cap g : Nat} {w : World} (l : List UInt8) (n : Nat) (hl : l.length = n) (hown : w.ownsRow B2 5 1 (.slice (some ⟨g, 0, none⟩) n cap) n (vls l)) :
    (convert 83 9 (.slice (some ⟨g, 0, none⟩) n cap)).run Tryz.prog w = .ok (.string (bs l)) w := by
  refine run_bytes_to_string w 83 9 5 Tryz.underlying83 Tryz.underlying5 Tryz.underlying9 g 0 n cap l hl (fun j h => ?_)
  have := hown.cellAt j (by omega)
  rw [Nat.zero_add, this]
  simp [vls, valB, h]
theorem conv_nil (w : World) : (convert 83 9 (.slice none 0 0)).run Tryz.prog w = .ok (.string ⟨#[]⟩) w := by
  rw [run_convert_bytes_string w 83 9 5 _ _ _ Tryz.underlying83 Tryz.underlying5 Tryz.underlying9]
  simp [Conv.bytesToString, Sem.run_pure]
  rfl
theorem ls_get (s : ByteArray) (j : Nat) (h : j < s.size) : s[j]'h = (ls s).getD j 0 := by
  have hl : j < s.data.toList.length := by simpa using h
  unfold ls
  rw [List.getD_eq_getElem?_getD, List.getElem?_eq_getElem hl]
  rfl
theorem ext4 (s : ByteArray) (j : Nat) (h : 4 * j + 4 ≤ s.size) : s.extract (4 * j) (4 * j + 4) = ByteArray.mk #[(ls s).getD (4 * j) 0, (ls s).getD (4 * j + 1) 0, (ls s).getD (4 * j + 2) 0, (ls s).getD (4 * j + 3) 0] := by
  apply ls_inj
  rw [ls_extract]
  have hl : (ls s).length = s.size := length_ls s
  generalize ls s = l at hl
  show (l.drop (4 * j)).take (4 * j + 4 - 4 * j) = [_, _, _, _]
  rw [show 4 * j + 4 - 4 * j = 4 by omega]
  apply List.ext_getElem
  · simp; omega
  · intro i h1 h2
    simp at h1
    have h4 : i < 4 := by omega
    have hi : 4 * j + i < l.length := by omega
    match i, h4 with
    | 0, _ => simp [show 4 * j < l.length by omega]
    | 1, _ => simp [show 4 * j + 1 < l.length by omega]
    | 2, _ => simp [show 4 * j + 2 < l.length by omega]
    | 3, _ => simp [show 4 * j + 3 < l.length by omega]
theorem or_mul (a b k : Nat) (h : a < 2 ^ k) : a ||| b * 2 ^ k = b * 2 ^ k + a := by
  rw [Nat.or_comm, ← Nat.shiftLeft_eq, Nat.shiftLeft_add_eq_or_of_lt h]
theorem run_index_row (T n : Nat) (hu : Tryz.prog.underlying T = some (.array n 86)) (t : Array W32) (hz : t.size = n) (j : Nat) (hj : j < n) (w : World) : (Instr.index T (.agg (rowW t)) (.int .i64 j)).run Tryz.prog w = .ok (.int .u32 (wv (t.getD j 0))) w := by
  have hn : (0 : Int) ≤ j ∧ (j : Int) < n := by omega
  have hi : (Tryz.prog.info? 86).map (·.size) = some 1 := by kernel_rfl
  have hjt : j < t.size := by omega
  cases hq : Tryz.prog.info? 86 with
  | none => simp [hq] at hi
  | some i =>
    have hs : i.size = 1 := by simpa [hq] using hi
    simp [Instr.index, run_underlying hu, asIntOf, go_sem, sizeOf, typeInfo, hq, hs, hn]
    have hx : (rowW t)[j]? = some (.int .u32 (wv (t.getD j 0))) := by simp [rowW, hjt]
    rw [if_pos hj, hx]
    simp [hjt]

theorem be_ar1 (a b : Nat) : a * 16777216 + b * 65536 = (a * 256 + b) * 65536 := by omega
theorem be_ar2 (a b c : Nat) : a * 16777216 + b * 65536 + c * 256 = (a * 65536 + b * 256 + c) * 256 := by omega
theorem be_ar3 (a b c d : Nat) : 16777216 * a + 65536 * b + 256 * c + d = a * 16777216 + (b * 65536 + (c * 256 + d)) := by omega
theorem be_ar4 (a b c d : Nat) : 16777216 * a + 65536 * b + 256 * c + d = a * 16777216 + b * 65536 + c * 256 + d := by omega
/-- A word, the highest byte first. -/
def beN (a b c d : Nat) : W32 := BitVec.ofNat 32 (16777216 * a + 65536 * b + 256 * c + d)
theorem be_or4 (a b c d : Nat) (ha : a < 256) (hb : b < 256) (hc : c < 256) (hd : d < 256) :
    bits .or .u32 (bits .or .u32 (bits .or .u32 ((a : Int) % 4294967296 * 16777216 % 4294967296) ((b : Int) % 4294967296 * 65536 % 4294967296)) ((c : Int) % 4294967296 * 256 % 4294967296)) ((d : Int) % 4294967296)
      = wv (beN a b c d) := by
  have e0 : (a : Int) % 4294967296 * 16777216 % 4294967296 = ((a * 16777216 : Nat) : Int) := by omega
  have e1 : (b : Int) % 4294967296 * 65536 % 4294967296 = ((b * 65536 : Nat) : Int) := by omega
  have e2 : (c : Int) % 4294967296 * 256 % 4294967296 = ((c * 256 : Nat) : Int) := by omega
  have e3 : (d : Int) % 4294967296 = ((d : Nat) : Int) := by omega
  have bound : ∀ x y m : Nat, x < 256 → y < m → x * m + y < 256 * m := fun x y m hx hy =>
    Nat.lt_of_lt_of_le (show x * m + y < (x + 1) * m by rw [Nat.succ_mul]; exact Nat.add_lt_add_left hy _) (Nat.mul_le_mul_right _ hx)
  have l1 : c * 256 + d < 65536 := bound c d 256 hc hd
  have l2 : b * 65536 + (c * 256 + d) < 16777216 := bound b _ 65536 hb l1
  have l3 : a * 16777216 + (b * 65536 + (c * 256 + d)) < 4294967296 := bound a _ 16777216 ha l2
  have m1 : b * 65536 < 16777216 := Nat.lt_of_le_of_lt (Nat.le_add_right _ _) l2
  have m2 : c * 256 < 65536 := Nat.lt_of_le_of_lt (Nat.le_add_right _ _) l1
  have k0 : a * 16777216 < 4294967296 := Nat.lt_of_le_of_lt (Nat.le_add_right _ _) l3
  have k1 : b * 65536 < 4294967296 := Nat.lt_trans m1 (by decide)
  have k2 : c * 256 < 4294967296 := Nat.lt_trans m2 (by decide)
  have k3 : d < 4294967296 := Nat.lt_trans hd (by decide)
  have q1 : a * 16777216 ||| b * 65536 = a * 16777216 + b * 65536 := by rw [Nat.or_comm]; exact or_mul (b * 65536) a 24 m1
  have q2 : (a * 16777216 + b * 65536) ||| c * 256 = a * 16777216 + b * 65536 + c * 256 := by
    have := or_mul (c * 256) (a * 256 + b) 16 m2
    rw [Nat.or_comm, be_ar1]
    exact this
  have q3 : (a * 16777216 + b * 65536 + c * 256) ||| d = a * 16777216 + b * 65536 + c * 256 + d := by
    have := or_mul d (a * 65536 + b * 256 + c) 8 hd
    rw [Nat.or_comm, be_ar2]
    exact this
  have z1 : a * 16777216 + b * 65536 < 4294967296 := Nat.lt_of_le_of_lt (Nat.add_le_add_left (Nat.le_add_right _ _) _) l3
  have z2 : a * 16777216 + b * 65536 + c * 256 < 4294967296 := by
    rw [Nat.add_assoc]
    exact Nat.lt_of_le_of_lt (Nat.add_le_add_left (Nat.add_le_add_left (Nat.le_add_right _ _) _) _) l3
  rw [e0, e1, e2, e3, u32_or_nat _ _ k0 k1, q1, u32_or_nat _ _ z1 k2, q2, u32_or_nat _ _ z2 k3, q3]
  unfold wv beN
  rw [BitVec.toNat_ofNat, Nat.mod_eq_of_lt (by rw [be_ar3]; exact l3)]
  rw [be_ar4]
end Go.Proofs.YtfckjilhkdlpfaaGreatDoor

namespace Go.Proofs.YtfckjilhkdlpfaaGreatDoor
open Go.RowKit MS
attribute [local go_sem] w_add w_xor w_or w_and w_sub
theorem w_rotc (x : W32) (n m : Nat) (h : n < 32) (hm : n + m = 32) (a b : Int) (ha : a = ((x.toNat * 2 ^ n % 2 ^ 32 : Nat) : Int)) (hb : b = ((x.toNat / 2 ^ m : Nat) : Int)) :
    bits .or .u32 b a = wv (x.rotateLeft n) := by
  subst ha; subst hb
  have h1 : x.toNat * 2 ^ n % 2 ^ 32 < 4294967296 := Nat.mod_lt _ (by decide)
  have h2 : x.toNat / 2 ^ m < 4294967296 := Nat.lt_of_le_of_lt (Nat.div_le_self _ _) x.isLt
  unfold wv
  rw [u32_or_nat _ _ h2 h1, Nat.or_comm, BitVec.rotateLeft_def, Nat.mod_eq_of_lt h, BitVec.toNat_or, BitVec.toNat_shiftLeft, BitVec.toNat_ushiftRight, Nat.shiftLeft_eq, Nat.shiftRight_eq_div_pow, show 32 - n = m by omega]
theorem w_shr (x : W32) (n : Nat) (a : Int) (ha : a = ((x.toNat / 2 ^ n : Nat) : Int)) : a = wv (x >>> n) := by
  subst ha
  unfold wv
  rw [BitVec.toNat_ushiftRight, Nat.shiftRight_eq_div_pow]

set_option maxHeartbeats 400000 in
theorem rotm7 (x : W32) (w : World) :
    Calls Tryz.prog 119 #[.int .u32 (wv x), .int .i64 (-7)] w fun e w' => e = .returned (.int .u32 (wv (x.rotateLeft 25))) ∧ w = w' := by
  have a1 : bits BinOp.and IntKind.u64 (IntKind.u64.wrap (-7)) 31 = 25 := by decide +kernel
  have a2 := w_rot x 25 7 (by decide) (by decide) (wv x * 33554432 % 4294967296) (wv x / 128) (by unfold wv; omega) (by unfold wv; omega)
  go_enter Tryz.func119, Tryz.ntmps119
  go_wp2
  go_ret
  exact ⟨rfl, rfl⟩

set_option maxHeartbeats 400000 in
theorem right7 (x : W32) (w : World) :
    Calls Tryz.prog 139 #[.int .u32 (wv x), .int .i64 7] w fun e w' => e = .returned (.int .u32 (wv (x.rotateLeft 25))) ∧ ∃ k, w' = w.drewN k := by
  have a2 := w_rotc x 25 7 (by decide) (by decide) (wv x * 33554432 % 4294967296) (wv x / 128) (by unfold wv; omega) (by unfold wv; omega)
  go_enter Tryz.func139, Tryz.ntmps139
  go_wp2
  go_quiet (fail)
  go_wp2
  go_ret
  exact ⟨rfl, _, rfl⟩

set_option maxHeartbeats 400000 in
theorem rotm18 (x : W32) (w : World) :
    Calls Tryz.prog 119 #[.int .u32 (wv x), .int .i64 (-18)] w fun e w' => e = .returned (.int .u32 (wv (x.rotateLeft 14))) ∧ w = w' := by
  have a1 : bits BinOp.and IntKind.u64 (IntKind.u64.wrap (-18)) 31 = 14 := by decide +kernel
  have a2 := w_rot x 14 18 (by decide) (by decide) (wv x * 16384 % 4294967296) (wv x / 262144) (by unfold wv; omega) (by unfold wv; omega)
  go_enter Tryz.func119, Tryz.ntmps119
  go_wp2
  go_ret
  exact ⟨rfl, rfl⟩

set_option maxHeartbeats 400000 in
theorem right18 (x : W32) (w : World) :
    Calls Tryz.prog 139 #[.int .u32 (wv x), .int .i64 18] w fun e w' => e = .returned (.int .u32 (wv (x.rotateLeft 14))) ∧ ∃ k, w' = w.drewN k := by
  have a2 := w_rotc x 14 18 (by decide) (by decide) (wv x * 16384 % 4294967296) (wv x / 262144) (by unfold wv; omega) (by unfold wv; omega)
  go_enter Tryz.func139, Tryz.ntmps139
  go_wp2
  go_quiet (fail)
  go_wp2
  go_ret
  exact ⟨rfl, _, rfl⟩

set_option maxHeartbeats 400000 in
theorem rotm17 (x : W32) (w : World) :
    Calls Tryz.prog 119 #[.int .u32 (wv x), .int .i64 (-17)] w fun e w' => e = .returned (.int .u32 (wv (x.rotateLeft 15))) ∧ w = w' := by
  have a1 : bits BinOp.and IntKind.u64 (IntKind.u64.wrap (-17)) 31 = 15 := by decide +kernel
  have a2 := w_rot x 15 17 (by decide) (by decide) (wv x * 32768 % 4294967296) (wv x / 131072) (by unfold wv; omega) (by unfold wv; omega)
  go_enter Tryz.func119, Tryz.ntmps119
  go_wp2
  go_ret
  exact ⟨rfl, rfl⟩

set_option maxHeartbeats 400000 in
theorem right17 (x : W32) (w : World) :
    Calls Tryz.prog 139 #[.int .u32 (wv x), .int .i64 17] w fun e w' => e = .returned (.int .u32 (wv (x.rotateLeft 15))) ∧ ∃ k, w' = w.drewN k := by
  have a2 := w_rotc x 15 17 (by decide) (by decide) (wv x * 32768 % 4294967296) (wv x / 131072) (by unfold wv; omega) (by unfold wv; omega)
  go_enter Tryz.func139, Tryz.ntmps139
  go_wp2
  go_quiet (fail)
  go_wp2
  go_ret
  exact ⟨rfl, _, rfl⟩

set_option maxHeartbeats 400000 in
theorem rotm19 (x : W32) (w : World) :
    Calls Tryz.prog 119 #[.int .u32 (wv x), .int .i64 (-19)] w fun e w' => e = .returned (.int .u32 (wv (x.rotateLeft 13))) ∧ w = w' := by
  have a1 : bits BinOp.and IntKind.u64 (IntKind.u64.wrap (-19)) 31 = 13 := by decide +kernel
  have a2 := w_rot x 13 19 (by decide) (by decide) (wv x * 8192 % 4294967296) (wv x / 524288) (by unfold wv; omega) (by unfold wv; omega)
  go_enter Tryz.func119, Tryz.ntmps119
  go_wp2
  go_ret
  exact ⟨rfl, rfl⟩

set_option maxHeartbeats 400000 in
theorem right19 (x : W32) (w : World) :
    Calls Tryz.prog 139 #[.int .u32 (wv x), .int .i64 19] w fun e w' => e = .returned (.int .u32 (wv (x.rotateLeft 13))) ∧ ∃ k, w' = w.drewN k := by
  have a2 := w_rotc x 13 19 (by decide) (by decide) (wv x * 8192 % 4294967296) (wv x / 524288) (by unfold wv; omega) (by unfold wv; omega)
  go_enter Tryz.func139, Tryz.ntmps139
  go_wp2
  go_quiet (fail)
  go_wp2
  go_ret
  exact ⟨rfl, _, rfl⟩

set_option maxHeartbeats 400000 in
theorem rotm6 (x : W32) (w : World) :
    Calls Tryz.prog 119 #[.int .u32 (wv x), .int .i64 (-6)] w fun e w' => e = .returned (.int .u32 (wv (x.rotateLeft 26))) ∧ w = w' := by
  have a1 : bits BinOp.and IntKind.u64 (IntKind.u64.wrap (-6)) 31 = 26 := by decide +kernel
  have a2 := w_rot x 26 6 (by decide) (by decide) (wv x * 67108864 % 4294967296) (wv x / 64) (by unfold wv; omega) (by unfold wv; omega)
  go_enter Tryz.func119, Tryz.ntmps119
  go_wp2
  go_ret
  exact ⟨rfl, rfl⟩

set_option maxHeartbeats 400000 in
theorem right6 (x : W32) (w : World) :
    Calls Tryz.prog 139 #[.int .u32 (wv x), .int .i64 6] w fun e w' => e = .returned (.int .u32 (wv (x.rotateLeft 26))) ∧ ∃ k, w' = w.drewN k := by
  have a2 := w_rotc x 26 6 (by decide) (by decide) (wv x * 67108864 % 4294967296) (wv x / 64) (by unfold wv; omega) (by unfold wv; omega)
  go_enter Tryz.func139, Tryz.ntmps139
  go_wp2
  go_quiet (fail)
  go_wp2
  go_ret
  exact ⟨rfl, _, rfl⟩

set_option maxHeartbeats 400000 in
theorem rotm11 (x : W32) (w : World) :
    Calls Tryz.prog 119 #[.int .u32 (wv x), .int .i64 (-11)] w fun e w' => e = .returned (.int .u32 (wv (x.rotateLeft 21))) ∧ w = w' := by
  have a1 : bits BinOp.and IntKind.u64 (IntKind.u64.wrap (-11)) 31 = 21 := by decide +kernel
  have a2 := w_rot x 21 11 (by decide) (by decide) (wv x * 2097152 % 4294967296) (wv x / 2048) (by unfold wv; omega) (by unfold wv; omega)
  go_enter Tryz.func119, Tryz.ntmps119
  go_wp2
  go_ret
  exact ⟨rfl, rfl⟩

set_option maxHeartbeats 400000 in
theorem right11 (x : W32) (w : World) :
    Calls Tryz.prog 139 #[.int .u32 (wv x), .int .i64 11] w fun e w' => e = .returned (.int .u32 (wv (x.rotateLeft 21))) ∧ ∃ k, w' = w.drewN k := by
  have a2 := w_rotc x 21 11 (by decide) (by decide) (wv x * 2097152 % 4294967296) (wv x / 2048) (by unfold wv; omega) (by unfold wv; omega)
  go_enter Tryz.func139, Tryz.ntmps139
  go_wp2
  go_quiet (fail)
  go_wp2
  go_ret
  exact ⟨rfl, _, rfl⟩

set_option maxHeartbeats 400000 in
theorem rotm25 (x : W32) (w : World) :
    Calls Tryz.prog 119 #[.int .u32 (wv x), .int .i64 (-25)] w fun e w' => e = .returned (.int .u32 (wv (x.rotateLeft 7))) ∧ w = w' := by
  have a1 : bits BinOp.and IntKind.u64 (IntKind.u64.wrap (-25)) 31 = 7 := by decide +kernel
  have a2 := w_rot x 7 25 (by decide) (by decide) (wv x * 128 % 4294967296) (wv x / 33554432) (by unfold wv; omega) (by unfold wv; omega)
  go_enter Tryz.func119, Tryz.ntmps119
  go_wp2
  go_ret
  exact ⟨rfl, rfl⟩

set_option maxHeartbeats 400000 in
theorem right25 (x : W32) (w : World) :
    Calls Tryz.prog 139 #[.int .u32 (wv x), .int .i64 25] w fun e w' => e = .returned (.int .u32 (wv (x.rotateLeft 7))) ∧ ∃ k, w' = w.drewN k := by
  have a2 := w_rotc x 7 25 (by decide) (by decide) (wv x * 128 % 4294967296) (wv x / 33554432) (by unfold wv; omega) (by unfold wv; omega)
  go_enter Tryz.func139, Tryz.ntmps139
  go_wp2
  go_quiet (fail)
  go_wp2
  go_ret
  exact ⟨rfl, _, rfl⟩

set_option maxHeartbeats 400000 in
theorem rotm2 (x : W32) (w : World) :
    Calls Tryz.prog 119 #[.int .u32 (wv x), .int .i64 (-2)] w fun e w' => e = .returned (.int .u32 (wv (x.rotateLeft 30))) ∧ w = w' := by
  have a1 : bits BinOp.and IntKind.u64 (IntKind.u64.wrap (-2)) 31 = 30 := by decide +kernel
  have a2 := w_rot x 30 2 (by decide) (by decide) (wv x * 1073741824 % 4294967296) (wv x / 4) (by unfold wv; omega) (by unfold wv; omega)
  go_enter Tryz.func119, Tryz.ntmps119
  go_wp2
  go_ret
  exact ⟨rfl, rfl⟩

set_option maxHeartbeats 400000 in
theorem right2 (x : W32) (w : World) :
    Calls Tryz.prog 139 #[.int .u32 (wv x), .int .i64 2] w fun e w' => e = .returned (.int .u32 (wv (x.rotateLeft 30))) ∧ ∃ k, w' = w.drewN k := by
  have a2 := w_rotc x 30 2 (by decide) (by decide) (wv x * 1073741824 % 4294967296) (wv x / 4) (by unfold wv; omega) (by unfold wv; omega)
  go_enter Tryz.func139, Tryz.ntmps139
  go_wp2
  go_quiet (fail)
  go_wp2
  go_ret
  exact ⟨rfl, _, rfl⟩

set_option maxHeartbeats 400000 in
theorem rotm13 (x : W32) (w : World) :
    Calls Tryz.prog 119 #[.int .u32 (wv x), .int .i64 (-13)] w fun e w' => e = .returned (.int .u32 (wv (x.rotateLeft 19))) ∧ w = w' := by
  have a1 : bits BinOp.and IntKind.u64 (IntKind.u64.wrap (-13)) 31 = 19 := by decide +kernel
  have a2 := w_rot x 19 13 (by decide) (by decide) (wv x * 524288 % 4294967296) (wv x / 8192) (by unfold wv; omega) (by unfold wv; omega)
  go_enter Tryz.func119, Tryz.ntmps119
  go_wp2
  go_ret
  exact ⟨rfl, rfl⟩

set_option maxHeartbeats 400000 in
theorem right13 (x : W32) (w : World) :
    Calls Tryz.prog 139 #[.int .u32 (wv x), .int .i64 13] w fun e w' => e = .returned (.int .u32 (wv (x.rotateLeft 19))) ∧ ∃ k, w' = w.drewN k := by
  have a2 := w_rotc x 19 13 (by decide) (by decide) (wv x * 524288 % 4294967296) (wv x / 8192) (by unfold wv; omega) (by unfold wv; omega)
  go_enter Tryz.func139, Tryz.ntmps139
  go_wp2
  go_quiet (fail)
  go_wp2
  go_ret
  exact ⟨rfl, _, rfl⟩

set_option maxHeartbeats 400000 in
theorem rotm22 (x : W32) (w : World) :
    Calls Tryz.prog 119 #[.int .u32 (wv x), .int .i64 (-22)] w fun e w' => e = .returned (.int .u32 (wv (x.rotateLeft 10))) ∧ w = w' := by
  have a1 : bits BinOp.and IntKind.u64 (IntKind.u64.wrap (-22)) 31 = 10 := by decide +kernel
  have a2 := w_rot x 10 22 (by decide) (by decide) (wv x * 1024 % 4294967296) (wv x / 4194304) (by unfold wv; omega) (by unfold wv; omega)
  go_enter Tryz.func119, Tryz.ntmps119
  go_wp2
  go_ret
  exact ⟨rfl, rfl⟩

set_option maxHeartbeats 400000 in
theorem right22 (x : W32) (w : World) :
    Calls Tryz.prog 139 #[.int .u32 (wv x), .int .i64 22] w fun e w' => e = .returned (.int .u32 (wv (x.rotateLeft 10))) ∧ ∃ k, w' = w.drewN k := by
  have a2 := w_rotc x 10 22 (by decide) (by decide) (wv x * 1024 % 4294967296) (wv x / 4194304) (by unfold wv; omega) (by unfold wv; omega)
  go_enter Tryz.func139, Tryz.ntmps139
  go_wp2
  go_quiet (fail)
  go_wp2
  go_ret
  exact ⟨rfl, _, rfl⟩
end Go.Proofs.YtfckjilhkdlpfaaGreatDoor

namespace Go.Proofs.YtfckjilhkdlpfaaGreatDoor
open Go.RowKit MS
def s0 (x : W32) : W32 := x.rotateLeft 25 ^^^ x.rotateLeft 14 ^^^ x >>> 3
def s1 (y : W32) : W32 := y.rotateLeft 15 ^^^ y.rotateLeft 13 ^^^ y >>> 10
def be (s : ByteArray) (i : Nat) : W32 := beN ((ls s).getD (4 * i) 0).toNat ((ls s).getD (4 * i + 1) 0).toNat ((ls s).getD (4 * i + 2) 0).toNat ((ls s).getD (4 * i + 3) 0).toNat
def ws1 (b : Nat → W32) : Nat → Array W32
  | 0 => Array.replicate 64 0
  | i + 1 => (ws1 b i).setIfInBounds i (b i)
def nxt (p : Array W32) (t : Nat) : W32 := p.getD (t - 16) 0 + s0 (p.getD (t - 15) 0) + p.getD (t - 7) 0 + s1 (p.getD (t - 2) 0)
def ws2 (p : Array W32) : Nat → Array W32
  | 0 => p
  | i + 1 => (ws2 p i).setIfInBounds (16 + i) (nxt (ws2 p i) (16 + i))
def sch (b : Nat → W32) : Array W32 := ws2 (ws1 b 16) 48
theorem size_ws1 (b : Nat → W32) (i : Nat) : (ws1 b i).size = 64 := by
  induction i with
  | zero => simp [ws1]
  | succ i ih => simp [ws1, ih]
theorem size_ws2 (p : Array W32) (i : Nat) : (ws2 p i).size = p.size := by
  induction i with
  | zero => rfl
  | succ i ih => simp [ws2, ih]
theorem size_sch (b : Nat → W32) : (sch b).size = 64 := by rw [sch, size_ws2, size_ws1]

structure SSt (w0 : World) (p : Array W32) (w : World) : Prop where
  r0 : w.heap[w0.heap.size]? = some (.cells (rowW (Array.replicate 64 0)) 139 (0, 0))
  r1 : w.heap[w0.heap.size + 1]? = some (.cells (rowW p) 139 (0, 0))
  bel : Below w0.heap.size w0 w
theorem SSt.drewN {w0 w : World} {p : Array W32} (h : SSt w0 p w) (k : Nat) : SSt w0 p (w.drewN k) := ⟨h.r0, h.r1, below_drewN h.bel k⟩
theorem SSt.set {w0 w : World} {p : Array W32} (h : SSt w0 p w) (i : Nat) (x : W32) : SSt w0 (p.setIfInBounds i x) (w.setCell ⟨w0.heap.size + 1, i, none⟩ (.int .u32 (wv x))) := by
  refine ⟨?_, ?_, h.bel.setCell (by simp) _⟩
  · rw [heap_setCell_other _ _ _ _ (by simp)]; exact h.r0
  · rw [heap_setCell_same w _ i (rowW p) _ _ h.r1, rowW_set]
theorem SSt.cell {w0 w : World} {p : Array W32} (h : SSt w0 p w) (i : Nat) (hi : i < p.size) : w.cell? ⟨w0.heap.size + 1, i, none⟩ = some (.int .u32 (wv (p.getD i 0))) := by
  rw [cell_of_row w _ i _ _ _ h.r1, rowW_get p i hi]
theorem sst_start (w : World) : SSt w (Array.replicate 64 0) ((w.alloc (.cells (rowW (Array.replicate 64 0)) 139 (0, 0))).alloc (.cells (rowW (Array.replicate 64 0)) 139 (0, 0))) := by
  generalize hX : Obj.cells (rowW (Array.replicate 64 0)) 139 (0, 0) = X
  have hw := Below.refl w.heap.size w
  have s1 : (w.alloc X).heap.size = w.heap.size + 1 := World.size_alloc _ _
  have e1 : ((w.alloc X).alloc X).heap[w.heap.size]? = some X := ((MapKept.heap_alloc (w.alloc X) X).2 _ (by omega)).trans (MapKept.heap_alloc w X).1
  have f1 : ((w.alloc X).alloc X).heap[w.heap.size + 1]? = some X := by rw [← s1]; exact (MapKept.heap_alloc _ X).1
  subst hX
  exact ⟨e1, f1, below_alloc (below_alloc hw _) _⟩
theorem z64W : rowW (Array.replicate 64 0) = Array.replicate 64 (.int .u32 0) := by
  unfold rowW
  rw [Array.map_replicate]
  rfl
theorem be_or4q (x0 x1 x2 x3 : UInt8) (h0 : 0 < (ByteArray.mk #[x0, x1, x2, x3]).size) (h1 : 1 < (ByteArray.mk #[x0, x1, x2, x3]).size) (h2 : 2 < (ByteArray.mk #[x0, x1, x2, x3]).size) (h3 : 3 < (ByteArray.mk #[x0, x1, x2, x3]).size) :
    bits .or .u32 (bits .or .u32 (bits .or .u32 ((((ByteArray.mk #[x0, x1, x2, x3])[0]'h0).toNat : Int) % 4294967296 * 16777216 % 4294967296) ((((ByteArray.mk #[x0, x1, x2, x3])[1]'h1).toNat : Int) % 4294967296 * 65536 % 4294967296)) ((((ByteArray.mk #[x0, x1, x2, x3])[2]'h2).toNat : Int) % 4294967296 * 256 % 4294967296)) ((((ByteArray.mk #[x0, x1, x2, x3])[3]'h3).toNat : Int) % 4294967296)
      = wv (beN x0.toNat x1.toNat x2.toNat x3.toNat) :=
  be_or4 x0.toNat x1.toNat x2.toNat x3.toNat x0.toNat_lt x1.toNat_lt x2.toNat_lt x3.toNat_lt

attribute [local go_sem] w_add w_xor
set_option maxRecDepth 100000 in
set_option maxHeartbeats 1000000 in
theorem schedule_any (s : ByteArray) (w : World) (hs : s.size = 64) :
    Calls Tryz.prog 118 #[.string s] w fun e w' => e = .returned (.agg (rowW (sch (be s)))) ∧ Below w.heap.size w w' := by
  have HS := Lib.hid hs
  have hsi : (s.size : Int) = 64 := by omega
  have st := sst_start w
  rw [z64W] at st
  have HST := Lib.hid st
  clear hs st
  go_enter Tryz.func118, Tryz.ntmps118
  go_wp2_with fail
  have st : SSt w (ws1 (be s) 0) ((w.alloc (.cells (Array.replicate 64 (.int .u32 0)) 139 (0, 0))).alloc (.cells (Array.replicate 64 (.int .u32 0)) 139 (0, 0))) := HST.out
  generalize hW : World.alloc (World.alloc _ _) _ = w3
  have st3 : SSt w (ws1 (be s) 0) w3 := by
    rw [← hW]
    exact st
  clear hW st HST
  go_loopw [11] (fun i wr => ∃ j : Nat, j ≤ 16 ∧ i = .int .i64 j ∧ SSt w (ws1 (be s) j) wr) (fun i _ => 16 - (intOf i).toNat)
  case atStart => exact ⟨0, by omega, rfl, st3⟩
  case round =>
    obtain ⟨j, hj, rfl, st0⟩ := hrel
    clear st3
    by_cases hjN : j < 16
    · have jn : (0 : Int) ≤ j := Int.natCast_nonneg j
      have ji : (j : Int) < 16 := by omega
      have j64 : (j : Int) < 64 := by omega
      have h1 : (4 : Int) * j + 4 ≤ s.size := by omega
      have h2 : (4 : Int) * j ≤ 4 * j + 4 := by omega
      have h3 : (4 : Int) * j + 4 ≤ 64 := by omega
      have c1 := st0.cell j (by rw [size_ws1]; omega)
      have f1 := frozen_of_row _ (w.heap.size + 1) j _ _ st0.r1
      go_wp2_with fail
      have hq := ext4 s j (by rw [HS.out]; omega)
      generalize hx0 : (ls s).getD (4 * j) 0 = x0 at hq
      have HX0 := Lib.hid hx0
      clear hx0
      generalize hx1 : (ls s).getD (4 * j + 1) 0 = x1 at hq
      have HX1 := Lib.hid hx1
      clear hx1
      generalize hx2 : (ls s).getD (4 * j + 2) 0 = x2 at hq
      have HX2 := Lib.hid hx2
      clear hx2
      generalize hx3 : (ls s).getD (4 * j + 3) 0 = x3 at hq
      have HX3 := Lib.hid hx3
      clear hx3
      rw [hq]
      clear hq
      refine wp_region_draws_tail 20 (by kernel_rfl) (by kernel_rfl) ?_
      simp only [List.take_succ_cons, List.take_zero, List.drop_succ_cons, List.drop_zero]
      repeat (go_big_quiet_step (fail))
      refine wpQuiet_nil ?_
      intro _ hw'
      obtain ⟨kk, hw''⟩ := hw'
      subst hw''
      rw [be_or4q x0 x1 x2 x3]
      have hV : be s j = beN x0.toNat x1.toNat x2.toNat x3.toNat := by rw [be, HX0.out, HX1.out, HX2.out, HX3.out]
      generalize beN x0.toNat x1.toNat x2.toNat x3.toNat = V at hV ⊢
      have HV := Lib.hid hV
      clear hV
      go_wp2_with fail
      have st1 := (st0.drewN kk).set j V
      generalize World.setCell _ _ _ = wn at st1 ⊢
      go_wp2_with fail
      go_roundw
      case rel => exact ⟨j + 1, by omega, by go_num, by rw [ws1, HV.out]; exact st1⟩
      case measure => simp [intOf]; omega
    · have ji : ¬ ((j : Int) < 16) := by omega
      have hj16 : j = 16 := by omega
      rw [hj16] at st0
      have hP := size_ws1 (be s) 16
      generalize hp : ws1 (be s) 16 = P at st0 hP
      have HP := Lib.hid hp
      have HPS := Lib.hid hP
      clear hp hP hj16 hjN
      go_wp2_with fail
      go_loopw [6] (fun i wr => ∃ t : Nat, t ≤ 48 ∧ i = .int .i64 (16 + (t : Int)) ∧ SSt w (ws2 P t) wr) (fun i _ => 64 - (intOf i).toNat)
      case atStart => exact ⟨0, by omega, rfl, st0⟩
      case round =>
        obtain ⟨t, ht, rfl, st2⟩ := hrel
        clear st0
        by_cases htN : t < 48
        · have ti : 16 + (t : Int) < 64 := by omega
          have tn : (0 : Int) ≤ t := Int.natCast_nonneg t
          have e15 : 16 + (t : Int) - 15 = ((t + 1 : Nat) : Int) := by omega
          have e2 : 16 + (t : Int) - 2 = ((t + 14 : Nat) : Int) := by omega
          have e16 : 16 + (t : Int) - 16 = (t : Int) := by omega
          have e7 : 16 + (t : Int) - 7 = ((t + 9 : Nat) : Int) := by omega
          have hz : (ws2 P t).size = 64 := (size_ws2 P t).trans HPS.out
          have c15 := st2.cell (t + 1) (by omega)
          have c2 := st2.cell (t + 14) (by omega)
          have c16 := st2.cell t (by omega)
          have c7 := st2.cell (t + 9) (by omega)
          have c0 := st2.cell (16 + t) (by omega)
          have f0 := frozen_of_row _ (w.heap.size + 1) (16 + t) _ _ st2.r1
          generalize hx : (ws2 P t).getD (t + 1) 0 = x at c15
          generalize hy : (ws2 P t).getD (t + 14) 0 = y at c2
          generalize hu : (ws2 P t).getD t 0 = u at c16
          generalize hv : (ws2 P t).getD (t + 9) 0 = v at c7
          have HN := Lib.hid (show nxt (ws2 P t) (16 + t) = u + s0 x + v + s1 y by
            rw [nxt, show 16 + t - 16 = t by omega, show 16 + t - 15 = t + 1 by omega, show 16 + t - 7 = t + 9 by omega, show 16 + t - 2 = t + 14 by omega, hx, hy, hu, hv])
          have l1 : ((t + 1 : Nat) : Int) < 64 := by omega
          have l2 : ((t + 14 : Nat) : Int) < 64 := by omega
          have l3 : ((t + 9 : Nat) : Int) < 64 := by omega
          have l4 : (t : Int) < 64 := by omega
          have sh3 := w_shr x 3 (wv x / 8) (by unfold wv; omega)
          have sh10 := w_shr y 10 (wv y / 1024) (by unfold wv; omega)
          have HST2 := Lib.hid st2
          clear hx hy hu hv hz htN st2
          go_wp2_with fail
          go_quiet (fail)
          have HSQ := Lib.hid (HST2.out.drewN nq)
          go_wp2_with fail
          refine (rotm7 x _).mono ?_
          rintro e w5 ⟨rfl, rfl⟩
          go_wp2_with fail
          refine (rotm18 x _).mono ?_
          rintro e w5 ⟨rfl, rfl⟩
          go_wp2_with fail
          refine (rotm17 y _).mono ?_
          rintro e w5 ⟨rfl, rfl⟩
          go_wp2_with fail
          refine (rotm19 y _).mono ?_
          rintro e w5 ⟨rfl, rfl⟩
          go_wp2_with fail
          have hsx : BitVec.rotateLeft x 25 ^^^ BitVec.rotateLeft x 14 ^^^ x >>> 3 = s0 x := rfl
          have hsy : BitVec.rotateLeft y 15 ^^^ BitVec.rotateLeft y 13 ^^^ y >>> 10 = s1 y := rfl
          rw [hsx, hsy]
          clear hsx hsy sh3 sh10 c15 c2
          generalize s0 x = sx at HN ⊢
          generalize s1 y = sy at HN ⊢
          refine wp_region_draws_tail 15 (by kernel_rfl) (by kernel_rfl) ?_
          simp only [List.take_succ_cons, List.take_zero, List.drop_succ_cons, List.drop_zero]
          repeat (go_big_quiet_step (fail))
          refine wpQuiet_nil ?_
          intro _ hw'
          obtain ⟨kk, hw''⟩ := hw'
          subst hw''
          go_wp2_with fail
          go_roundw
          case rel => exact ⟨t + 1, by omega, congrArg _ (by omega), by rw [ws2, HN.out]; exact (HST2.out.drewN (nq + kk)).set (16 + t) _⟩
          case measure => simp [intOf]; omega
        · have ti : ¬ (16 + (t : Int) < 64) := by omega
          have ht48 : t = 48 := by omega
          rw [ht48] at st2
          have hrow : ws2 P 48 = sch (be s) := by rw [sch, HP.out]
          rw [hrow] at st2
          have hsz := size_sch (be s)
          generalize hR : sch (be s) = R at st2 hsz
          have HR := Lib.hid hR
          have HI := Lib.hid (show (Tryz.prog.info? 139).map (·.size) = some (rowW R).size by rw [size_rowW, hsz]; kernel_rfl)
          have h0 := st2.r0
          rw [z64W] at h0
          have HL := Lib.hid (show (Array.replicate 64 (Value.int .u32 0)).size = (rowW R).size by rw [size_rowW, hsz]; rfl)
          have H0 := Lib.hid h0
          have HST2 := Lib.hid st2
          clear st2 hrow hR hsz h0 ht48 htN
          go_wp2_with (first
            | (with_reducible refine wpList_load_row rfl 139 (.tmp 3) rfl (w.heap.size + 1) rfl 139 (rowW R) (0, 0) _ HST2.out.r1 Tryz.underlying139 rfl HI.out ?_)
            | (with_reducible refine wpList_store_row rfl 139 (.tmp 2) (.tmp 85) rfl w.heap.size (rowW R) rfl rfl 139 (Array.replicate 64 (.int .u32 0)) H0.out HI.out HL.out (one_rowW R) ?_))
          refine bodyPost_ret (results_cell_row rfl _ _ w.heap.size 139 (rowW R) (0, 0) _ rfl (setRow_heap _ _ _ _ _ _ H0.out) Tryz.underlying139 rfl HI.out) rfl ⟨by rw [HR.out], ?_⟩
          exact below_setRow HST2.out.bel (Nat.le_refl _) _
end Go.Proofs.YtfckjilhkdlpfaaGreatDoor

namespace Go.Proofs.YtfckjilhkdlpfaaGreatDoor
open Go.RowKit MS
def KT : Array W32 := #[1116352408#32, 1899447441#32, 3049323471#32, 3921009573#32, 961987163#32, 1508970993#32, 2453635748#32, 2870763221#32, 3624381080#32, 310598401#32, 607225278#32, 1426881987#32, 1925078388#32, 2162078206#32, 2614888103#32, 3248222580#32, 3835390401#32, 4022224774#32, 264347078#32, 604807628#32, 770255983#32, 1249150122#32, 1555081692#32, 1996064986#32, 2554220882#32, 2821834349#32, 2952996808#32, 3210313671#32, 3336571891#32, 3584528711#32, 113926993#32, 338241895#32, 666307205#32, 773529912#32, 1294757372#32, 1396182291#32, 1695183700#32, 1986661051#32, 2177026350#32, 2456956037#32, 2730485921#32, 2820302411#32, 3259730800#32, 3345764771#32, 3516065817#32, 3600352804#32, 4094571909#32, 275423344#32, 430227734#32, 506948616#32, 659060556#32, 883997877#32, 958139571#32, 1322822218#32, 1537002063#32, 1747873779#32, 1955562222#32, 2024104815#32, 2227730452#32, 2361852424#32, 2428436474#32, 2756734187#32, 3204031479#32, 3329325298#32]
def IV : Array W32 := #[1779033703#32, 3144134277#32, 1013904242#32, 2773480762#32, 1359893119#32, 2600822924#32, 528734635#32, 1541459225#32]
structure Glob (w : World) : Prop where
  g0 : ∃ t fr, w.heap[1]? = some (.cells (rowW IV) t fr)
  g1 : ∃ t fr, w.heap[2]? = some (.cells (rowW KT) t fr)
theorem Glob.lt {w : World} (h : Glob w) : 2 < w.heap.size := by
  obtain ⟨t, fr, h⟩ := h.g1
  exact (Array.getElem?_eq_some_iff.1 h).1
theorem Glob.below {B : Nat} {w w' : World} (h : Glob w) (hB : 2 < B) (hb : Below B w w') : Glob w' := by
  obtain ⟨t, fr, h0⟩ := h.g0
  obtain ⟨t1, fr1, h1⟩ := h.g1
  exact ⟨⟨t, fr, (hb.block 1 (by omega)).trans h0⟩, ⟨t1, fr1, (hb.block 2 (by omega)).trans h1⟩⟩
theorem Glob.on {w w' : World} (h : Glob w) (hb : Below w.heap.size w w') : Glob w' := h.below h.lt hb
theorem Glob.k {w : World} (h : Glob w) (i : Nat) (hi : i < 64) : w.cell? ⟨2, i, none⟩ = some (.int .u32 (wv (KT.getD i 0))) := by
  obtain ⟨t, fr, h1⟩ := h.g1
  rw [cell_of_row w 2 i _ _ _ h1, rowW_get KT i hi]

structure V8 where
  a : W32
  b : W32
  c : W32
  d : W32
  e : W32
  f : W32
  g : W32
  h : W32
def S1 (e : W32) : W32 := e.rotateLeft 26 ^^^ e.rotateLeft 21 ^^^ e.rotateLeft 7
def S0 (a : W32) : W32 := a.rotateLeft 30 ^^^ a.rotateLeft 19 ^^^ a.rotateLeft 10
def chs (e f g : W32) : W32 := (e &&& f) ^^^ (~~~e &&& g)
def mj (a b c : W32) : W32 := (a &&& b) ^^^ (a &&& c) ^^^ (b &&& c)
def t1 (k x : W32) (v : V8) : W32 := v.h + S1 v.e + chs v.e v.f v.g + k + x
def t2 (v : V8) : W32 := S0 v.a + mj v.a v.b v.c
def rd (k x : W32) (v : V8) : V8 := ⟨t1 k x v + t2 v, v.a, v.b, v.c, v.d + t1 k x v, v.e, v.f, v.g⟩
def rds (W : Array W32) (v : V8) : Nat → V8
  | 0 => v
  | i + 1 => rd (KT.getD i 0) (W.getD i 0) (rds W v i)
def ofA (s : Array W32) : V8 := ⟨s.getD 0 0, s.getD 1 0, s.getD 2 0, s.getD 3 0, s.getD 4 0, s.getD 5 0, s.getD 6 0, s.getD 7 0⟩
def addA (s : Array W32) (v : V8) : Array W32 := #[s.getD 0 0 + v.a, s.getD 1 0 + v.b, s.getD 2 0 + v.c, s.getD 3 0 + v.d, s.getD 4 0 + v.e, s.getD 5 0 + v.f, s.getD 6 0 + v.g, s.getD 7 0 + v.h]
def blk8 (s : Array W32) (b : Nat → W32) : Array W32 := addA s (rds (sch b) (ofA s) 64)
theorem size_blk8 (s : Array W32) (b : Nat → W32) : (blk8 s b).size = 8 := rfl
theorem w_not (x : W32) : bits .xor .u32 4294967295 (wv x) = wv (~~~x) := by
  have h := w_xor (BitVec.allOnes 32) x
  rw [show wv (BitVec.allOnes 32) = 4294967295 from rfl] at h
  rw [h]
  rw [BitVec.allOnes_xor]
theorem unary_not_w (x : W32) : Op.unary .xor (.int .u32 (wv x)) = pure (.int .u32 (wv (~~~x))) := by
  rw [unary_xor, show (if IntKind.u32.signed then (-1 : Int) else IntKind.u32.max) = 4294967295 from rfl, intBits_xor, w_not]

structure PSt (w0 : World) (st : Array W32) (w : World) : Prop where
  r0 : w.heap[w0.heap.size]? = some (.cells (rowW st) 116 (0, 0))
  r1 : w.heap[w0.heap.size + 1]? = some (.cells (#[.int .u32 0, .int .u32 0, .int .u32 0, .int .u32 0, .int .u32 0, .int .u32 0, .int .u32 0, .int .u32 0] : Array Value) 116 (0, 0))
  bel : Below w0.heap.size w0 w
theorem PSt.on {w0 w w' : World} {st : Array W32} (h : PSt w0 st w) (hb : Below w.heap.size w w') : PSt w0 st w' :=
  ⟨(hb.block _ (Array.getElem?_eq_some_iff.1 h.r0).1).trans h.r0, (hb.block _ (Array.getElem?_eq_some_iff.1 h.r1).1).trans h.r1, h.bel.trans (hb.mono h.bel.size)⟩
theorem PSt.cell {w0 w : World} {st : Array W32} (h : PSt w0 st w) (hs : st.size = 8) (i : Nat) (hi : i < 8) : w.cell? ⟨w0.heap.size, i, none⟩ = some (.int .u32 (wv (st.getD i 0))) := by
  rw [cell_of_row w _ i _ _ _ h.r0, rowW_get st i (by omega)]
theorem PSt.drewN {w0 w : World} {st : Array W32} (h : PSt w0 st w) (k : Nat) : PSt w0 st (w.drewN k) := ⟨h.r0, h.r1, below_drewN h.bel k⟩
theorem Glob.drewN {w : World} (h : Glob w) (k : Nat) : Glob (w.drewN k) := ⟨h.g0, h.g1⟩
theorem pst_start (w : World) (st : Array W32) : PSt w st ((w.alloc (.cells (rowW st) 116 (0, 0))).alloc (.cells (#[.int .u32 0, .int .u32 0, .int .u32 0, .int .u32 0, .int .u32 0, .int .u32 0, .int .u32 0, .int .u32 0] : Array Value) 116 (0, 0))) := by
  generalize hX : Obj.cells (rowW st) 116 (0, 0) = X
  generalize hY : Obj.cells (#[.int .u32 0, .int .u32 0, .int .u32 0, .int .u32 0, .int .u32 0, .int .u32 0, .int .u32 0, .int .u32 0] : Array Value) 116 (0, 0) = Y
  have hw := Below.refl w.heap.size w
  have s1 : (w.alloc X).heap.size = w.heap.size + 1 := World.size_alloc _ _
  have e1 : ((w.alloc X).alloc Y).heap[w.heap.size]? = some X := ((MapKept.heap_alloc (w.alloc X) Y).2 _ (by omega)).trans (MapKept.heap_alloc w X).1
  have f1 : ((w.alloc X).alloc Y).heap[w.heap.size + 1]? = some Y := by rw [← s1]; exact (MapKept.heap_alloc _ Y).1
  subst hX hY
  exact ⟨e1, f1, below_alloc (below_alloc hw _) _⟩

attribute [local go_sem] w_add w_xor w_and
attribute [local go_sem high] unary_not_w
set_option maxRecDepth 100000 in
set_option maxHeartbeats 300000 in
theorem sblock_yes (st : Array W32) (s : ByteArray) (w : World) (hst : st.size = 8) (hs : s.size = 64) (G : Glob w) :
    Calls Tryz.prog 87 #[.agg (rowW st), .string s] w fun e w' => e = .returned (.agg (rowW (blk8 st (be s)))) ∧ Below w.heap.size w w' := by
  have hsi : ((s.size : Int) != 64) = false := by simp; omega
  have hsz := size_sch (be s)
  have H := Lib.hid (fun w => schedule_any s w hs)
  generalize hW : sch (be s) = W at H hsz
  have HW := Lib.hid hW
  have HSZ := Lib.hid hsz
  have HST := Lib.hid hst
  have HP := Lib.hid (pst_start w st)
  have HG := Lib.hid G
  have HI := Lib.hid (show (Tryz.prog.info? 139).map (·.size) = some (rowW W).size by rw [size_rowW, hsz]; kernel_rfl)
  have HL := Lib.hid (show (Array.replicate 64 (Value.int .u32 0)).size = (rowW W).size by rw [size_rowW, hsz]; rfl)
  clear hst hs hsz hW G
  go_enter Tryz.func87, Tryz.ntmps87
  go_wp2_with fail
  refine (H.out _).mono ?_
  rintro e w3 ⟨rfl, hb3⟩
  have HP3 := Lib.hid (HP.out.on hb3)
  have h5 := (MapKept.heap_alloc w3 (.cells (Array.replicate 64 (.int .u32 0)) 139 (0, 0))).1
  have H5 := Lib.hid h5
  clear hb3 h5
  go_wp2_with (with_reducible refine wpList_store_row rfl 139 (.tmp 5) (.tmp 27) rfl w3.heap.size (rowW W) rfl rfl 139 (Array.replicate 64 (.int .u32 0)) ?hg HI.out HL.out (one_rowW W) ?_)
  case hg => exact H5.out
  have hb5 : Below w3.heap.size w3 ((w3.alloc (.cells (Array.replicate 64 (.int .u32 0)) 139 (0, 0))).setRow w3.heap.size (rowW W)) := below_setRow (below_alloc (Below.refl _ _) _) (Nat.le_refl _) _
  have hp5 := HP3.out.on hb5
  have hr5 := setRow_heap _ _ _ (rowW W) _ _ H5.out
  have hg5 := HG.out.on hp5.bel
  generalize hw5 : World.setRow (World.alloc w3 _) _ _ = w5
  have hw5' : World.setRow (World.alloc w3 (.cells (Array.replicate 64 (.int .u32 0)) 139 (0, 0))) w3.heap.size (rowW W) = w5 := hw5
  rw [hw5'] at hp5 hr5 hg5
  clear hb5 hw5 hw5' H5 HP3 HP HL H
  generalize w3.heap.size = E at hr5 ⊢
  have HP5 := Lib.hid hp5
  have HR5 := Lib.hid hr5
  have HG5 := Lib.hid hg5
  have c0 := hp5.cell HST.out 0 (by decide)
  have c1 := hp5.cell HST.out 1 (by decide)
  have c2 := hp5.cell HST.out 2 (by decide)
  have c3 := hp5.cell HST.out 3 (by decide)
  have c4 := hp5.cell HST.out 4 (by decide)
  have c5 := hp5.cell HST.out 5 (by decide)
  have c6 := hp5.cell HST.out 6 (by decide)
  have c7 := hp5.cell HST.out 7 (by decide)
  have HCELL := Lib.hid (fun (w' : World) (h : PSt w st w') => (⟨h.cell HST.out 0 (by decide), h.cell HST.out 1 (by decide), h.cell HST.out 2 (by decide), h.cell HST.out 3 (by decide), h.cell HST.out 4 (by decide), h.cell HST.out 5 (by decide), h.cell HST.out 6 (by decide), h.cell HST.out 7 (by decide)⟩ : _ ∧ _ ∧ _ ∧ _ ∧ _ ∧ _ ∧ _ ∧ _))
  clear hp5 hr5 hg5
  generalize ha : st.getD 0 0 = ia at c0 HCELL
  generalize hb : st.getD 1 0 = ib at c1 HCELL
  generalize hc : st.getD 2 0 = ic at c2 HCELL
  generalize hd : st.getD 3 0 = idd at c3 HCELL
  generalize he : st.getD 4 0 = ie at c4 HCELL
  generalize hf : st.getD 5 0 = iff at c5 HCELL
  generalize hg : st.getD 6 0 = ig at c6 HCELL
  generalize hh : st.getD 7 0 = ih at c7 HCELL
  have HV := Lib.hid (show ofA st = ⟨ia, ib, ic, idd, ie, iff, ig, ih⟩ by rw [ofA, ha, hb, hc, hd, he, hf, hg, hh])
  have HA := Lib.hid (fun v => show addA st v = #[ia + v.a, ib + v.b, ic + v.c, idd + v.d, ie + v.e, iff + v.f, ig + v.g, ih + v.h] by rw [addA, ha, hb, hc, hd, he, hf, hg, hh])
  clear ha hb hc hd he hf hg hh
  go_quiet (fail)
  go_wp2_with fail
  go_quiet (fail)
  clear c0 c1 c2 c3 c4 c5 c6 c7
  generalize hw6 : World.drewN (World.drewN w5 _) _ = w6
  have hp6 : PSt w st w6 := by rw [← hw6]; exact (HP5.out.drewN _).drewN _
  have hg6 : Glob w6 := by rw [← hw6]; exact (HG5.out.drewN _).drewN _
  have hr6 : w6.heap[E]? = some (.cells (rowW W) 139 (0, 0)) := by rw [← hw6]; exact HR5.out
  have HP6 := Lib.hid hp6
  have HG6 := Lib.hid hg6
  have HR6 := Lib.hid hr6
  clear hw6 hp6 hg6 hr6 HP5 HG5 HR5
  go_wp2_with (with_reducible refine wpList_load_row rfl 139 (.tmp 5) rfl E rfl 139 (rowW W) (0, 0) _ ?hgl Tryz.underlying139 rfl HI.out ?_)
  case hgl => exact HR6.out
  go_loopw [6, 7, 8, 9, 10, 11, 12, 13, 45] (fun va vb vc vd ve vf vg vh i wr => ∃ (j : Nat) (a b c d e f g h : W32), j ≤ 64 ∧ i = .int .i64 j ∧ rds W ⟨ia, ib, ic, idd, ie, iff, ig, ih⟩ j = ⟨a, b, c, d, e, f, g, h⟩ ∧ va = .int .u32 (wv a) ∧ vb = .int .u32 (wv b) ∧ vc = .int .u32 (wv c) ∧ vd = .int .u32 (wv d) ∧ ve = .int .u32 (wv e) ∧ vf = .int .u32 (wv f) ∧ vg = .int .u32 (wv g) ∧ vh = .int .u32 (wv h) ∧ wr = w6) (fun _ _ _ _ _ _ _ _ i _ => 64 - (intOf i).toNat)
  case atStart => exact ⟨0, ia, ib, ic, idd, ie, iff, ig, ih, by omega, rfl, rfl, rfl, rfl, rfl, rfl, rfl, rfl, rfl, rfl, rfl⟩
  case round =>
    obtain ⟨j, a, b, c, d, e, f, g, h, hj, rfl, hrd, rfl, rfl, rfl, rfl, rfl, rfl, rfl, rfl, hwr⟩ := hrel
    subst hwr
    have HRD := Lib.hid hrd
    clear hrd
    by_cases hjN : j < 64
    · have ji : (j : Int) < 64 := by omega
      have jn : (0 : Int) ≤ j := Int.natCast_nonneg j
      have hix := fun w => run_index_row 139 64 Tryz.underlying139 W HSZ.out j hjN w
      have ck := HG6.out.k j hjN
      generalize hk : KT.getD j 0 = kj at ck
      generalize hx : W.getD j 0 = xj at hix
      have HK := Lib.hid hk
      have HX := Lib.hid hx
      clear hk hx
      go_wp2_with fail
      refine (rotm6 e _).mono ?_
      rintro _ _ ⟨rfl, rfl⟩
      go_wp2_with fail
      refine (rotm11 e _).mono ?_
      rintro _ _ ⟨rfl, rfl⟩
      go_wp2_with fail
      refine (rotm25 e _).mono ?_
      rintro _ _ ⟨rfl, rfl⟩
      go_wp2_with fail
      refine (rotm2 a _).mono ?_
      rintro _ _ ⟨rfl, rfl⟩
      go_wp2_with fail
      refine (rotm13 a _).mono ?_
      rintro _ _ ⟨rfl, rfl⟩
      go_wp2_with fail
      refine (rotm22 a _).mono ?_
      rintro _ _ ⟨rfl, rfl⟩
      go_wp2_with fail
      go_roundw
      case rel =>
        refine ⟨j + 1, _, a, b, c, _, e, f, g, by omega, by go_num, ?_, congrArg _ (w_add _ _), rfl, rfl, rfl, congrArg _ (w_add _ _), rfl, rfl, rfl, by first | trivial | rfl⟩
        rw [rds, HRD.out, HK.out, HX.out]
        rfl
      case measure => simp [intOf]; omega
    · have ji : ¬ ((j : Int) < 64) := by omega
      have hj64 : j = 64 := by omega
      have HFIN := Lib.hid (show blk8 st (be s) = #[ia + a, ib + b, ic + c, idd + d, ie + e, iff + f, ig + g, ih + h] by
        rw [blk8, HW.out, HV.out, HA.out, ← hj64, HRD.out])
      obtain ⟨c0, c1, c2, c3, c4, c5, c6, c7⟩ := HCELL.out wr HP6.out
      have HI8 := Lib.hid (show (Tryz.prog.info? 116).map (·.size) = some (#[.int .u32 (wv (ia + a)), .int .u32 (wv (ib + b)), .int .u32 (wv (ic + c)), .int .u32 (wv (idd + d)), .int .u32 (wv (ie + e)), .int .u32 (wv (iff + f)), .int .u32 (wv (ig + g)), .int .u32 (wv (ih + h))] : Array Value).size by kernel_rfl)
      have HO8 := Lib.hid (show (#[.int .u32 (wv (ia + a)), .int .u32 (wv (ib + b)), .int .u32 (wv (ic + c)), .int .u32 (wv (idd + d)), .int .u32 (wv (ie + e)), .int .u32 (wv (iff + f)), .int .u32 (wv (ig + g)), .int .u32 (wv (ih + h))] : Array Value).all (·.oneCell') = true by simp [Value.oneCell'])
      clear HCELL HRD hj64 hjN
      go_wp2_with (with_reducible refine wpList_store_row rfl 116 (.tmp 4) (.tmp 143) rfl (w.heap.size + 1) #[.int .u32 (wv (ia + a)), .int .u32 (wv (ib + b)), .int .u32 (wv (ic + c)), .int .u32 (wv (idd + d)), .int .u32 (wv (ie + e)), .int .u32 (wv (iff + f)), .int .u32 (wv (ig + g)), .int .u32 (wv (ih + h))] rfl rfl 116 #[.int .u32 0, .int .u32 0, .int .u32 0, .int .u32 0, .int .u32 0, .int .u32 0, .int .u32 0, .int .u32 0] ?hg8 HI8.out rfl HO8.out ?_)
      case hg8 => exact HP6.out.r1
      refine bodyPost_ret (results_cell_row rfl _ _ (w.heap.size + 1) 116 #[.int .u32 (wv (ia + a)), .int .u32 (wv (ib + b)), .int .u32 (wv (ic + c)), .int .u32 (wv (idd + d)), .int .u32 (wv (ie + e)), .int .u32 (wv (iff + f)), .int .u32 (wv (ig + g)), .int .u32 (wv (ih + h))] (0, 0) _ rfl (setRow_heap _ _ _ _ _ _ HP6.out.r1) Tryz.underlying116 rfl HI8.out) rfl ⟨by rw [HFIN.out]; simp [rowW], ?_⟩
      exact below_setRow HP6.out.bel (by omega) _
end Go.Proofs.YtfckjilhkdlpfaaGreatDoor

namespace Go.Proofs.YtfckjilhkdlpfaaGreatDoor
open Go.RowKit MS
def digs : ByteArray := ByteArray.mk #[48, 49, 50, 51, 52, 53, 54, 55, 56, 57, 97, 98, 99, 100, 101, 102]
def dig (n : Nat) : UInt8 := (ls digs).getD n 0
def hx (l : List UInt8) : Nat → List UInt8
  | 0 => []
  | i + 1 => hx l i ++ [dig ((l.getD i 0).toNat / 16)] ++ [dig ((l.getD i 0).toNat % 16)]
end Go.Proofs.YtfckjilhkdlpfaaGreatDoor

namespace Go.Proofs.YtfckjilhkdlpfaaGreatDoor
open Go.RowKit MS
def bN (c m : Nat) : UInt8 := UInt8.ofNat (c / m % 256)
theorem bN_val (c m : Nat) : valB (bN c m) = .int .u8 ((c : Int) / m % 256) := by
  unfold valB bN
  have : (UInt8.ofNat (c / m % 256)).toNat = c / m % 256 := by simp
  rw [this]
  congr 1
theorem bN_one (c : Nat) : valB (bN c 1) = .int .u8 ((c : Int) % 256) := by
  rw [bN_val]
  simp
def be8 (c : Nat) : List UInt8 := [bN c 72057594037927936, bN c 281474976710656, bN c 1099511627776, bN c 4294967296, bN c 16777216, bN c 65536, bN c 256, bN c 1]
/-- The bytes behind the rest: r, the byte 128, noughts, the count of bits. -/
def endL (r : List UInt8) (c : Nat) : List UInt8 := (r ++ 128 :: List.replicate ((if r.length + 9 > 64 then 128 else 64) - r.length - 9) 0) ++ be8 c
theorem length_endL (r : List UInt8) (c : Nat) (h : r.length < 64) : (endL r c).length = if r.length + 9 > 64 then 128 else 64 := by
  unfold endL be8
  simp
  split <;> omega
structure ESt (g : Nat) (w0 : World) (L : List UInt8) (w : World) : Prop where
  ge : w0.heap.size ≤ g
  ro : w.heap[g]? = some (.cells (vls L).toArray 5 (0, 0))
  bel : Below w0.heap.size w0 w
theorem ESt.put {g : Nat} {w0 w : World} {L : List UInt8} (h : ESt g w0 L w) (i : Nat) (x : UInt8) : ESt g w0 (L.set i x) (w.setCell ⟨g, i, none⟩ (valB x)) := by
  refine ⟨h.ge, ?_, h.bel.setCell h.ge _⟩
  rw [heap_setCell_same w g i _ _ _ h.ro]
  congr 2
  apply Array.toList_inj.1
  simp [vls, List.map_set]
theorem ESt.cell {g : Nat} {w0 w : World} {L : List UInt8} (h : ESt g w0 L w) (i : Nat) (hi : i < L.length) : ∃ u, w.cell? ⟨g, i, none⟩ = some u := by
  rw [cell_of_row w g i _ _ _ h.ro]
  exact ⟨valB (L.getD i 0), by simp [vls, hi]⟩
theorem set_end (A : List UInt8) (n : Nat) (hA : A.length = n) (B : List UInt8) (k : Nat) (x : UInt8) : (A ++ B).set (n + k) x = A ++ B.set k x := by
  subst hA
  rw [List.set_append_right _ _ (by omega)]
  congr 2
  omega
theorem end_all (r : List UInt8) (c Z n : Nat) (hn : n + 8 = Z) (hr : r.length + 9 ≤ Z) (hZ : Z = if r.length + 9 > 64 then 128 else 64) :
    (((((((((r ++ List.replicate (Z - r.length) 0).set r.length 128).set (n + 7) (bN c 1)).set (n + 6) (bN c 256)).set (n + 5) (bN c 65536)).set (n + 4) (bN c 16777216)).set (n + 3) (bN c 4294967296)).set (n + 2) (bN c 1099511627776)).set (n + 1) (bN c 281474976710656)).set (n + 0) (bN c 72057594037927936) = endL r c := by
  have e : (r ++ List.replicate (Z - r.length) 0).set r.length 128 = (r ++ 128 :: List.replicate (Z - r.length - 9) 0) ++ [0, 0, 0, 0, 0, 0, 0, 0] := by
    obtain ⟨z, hz⟩ : ∃ z, Z - r.length = z + 9 := ⟨Z - r.length - 9, by omega⟩
    rw [hz, show z + 9 - 9 = z by omega, List.set_append_right _ _ (Nat.le_refl _), Nat.sub_self, show z + 9 = (z + 8) + 1 by omega, List.replicate_succ, List.set_cons_zero, List.append_assoc]
    congr 1
    rw [List.cons_append]
    congr 1
    rw [← List.replicate_append_replicate]
    rfl
  have hl : (r ++ 128 :: List.replicate (Z - r.length - 9) (0 : UInt8)).length = n := by simp; omega
  rw [e, set_end _ n hl, set_end _ n hl, set_end _ n hl, set_end _ n hl, set_end _ n hl, set_end _ n hl, set_end _ n hl, set_end _ n hl]
  unfold endL be8
  rw [← hZ]
  rfl
theorem zeros_made (m : Nat) : (madeCells #[Value.int .u8 0] m).toList = vls (List.replicate m 0) := by
  rw [toList_madeCells_one, vls, List.map_replicate]
  rfl
theorem est_made {g : Nat} {w w' : World} {n : Nat} (h : w'.ownsRow w.heap.size 5 1 (.slice (some ⟨g, 0, none⟩) n n) n (vls (List.replicate n 0))) (hw : w.grownBy w' none) : ESt g w (List.replicate n 0) w' := by
  rcases h.2 with ⟨h', _⟩ | ⟨g', cap', cur, h', hb, hh, _, _, hsz, htk⟩
  · simp at h'
  · simp only [Value.slice.injEq, Option.some.injEq, Addr.mk.injEq, and_true, true_and] at h'
    obtain ⟨rfl, rfl⟩ := h'
    refine ⟨by omega, ?_, (Below.refl _ _).grown hw (Nat.le_refl _) (by intro k e; cases e)⟩
    rw [hh]
    congr 2
    apply Array.toList_inj.1
    rw [← htk, List.take_of_length_le (by rw [Array.length_toList, hsz]; exact Nat.le_refl _)]
theorem est_copied {g : Nat} {w0 w : World} {n : Nat} (h : ESt g w0 (List.replicate n 0) w) (r : ByteArray) :
    ESt g w0 (ls r ++ List.replicate (n - (ls r).length) 0) (w.setRow g ((vls (List.replicate n 0)).toArray.toList.take 0 ++ Lib.byteCells r.data.toList ++ (vls (List.replicate n 0)).toArray.toList.drop (0 + r.size)).toArray) := by
  refine ⟨h.ge, ?_, below_setRow h.bel h.ge _⟩
  rw [setRow_heap w g _ _ _ _ h.ro]
  congr 2
  apply Array.toList_inj.1
  simp [vls, Lib.byteCells, ls, valB]
theorem est_conv {g : Nat} {w0 w : World} {L : List UInt8} (h : ESt g w0 L w) (n : Nat) (hn : L.length = n) :
    (convert 83 9 (.slice (some ⟨g, 0, none⟩) n n)).run Tryz.prog w = .ok (.string (bs L)) w := by
  refine run_bytes_to_string w 83 9 5 Tryz.underlying83 Tryz.underlying5 Tryz.underlying9 g 0 n n L hn (fun j hj => ?_)
  rw [Nat.zero_add, cell_of_row w g j _ _ _ h.ro]
  simp [vls, valB, hj]
theorem wpList_copy_est {w : World} {ops : Array Oper} {rest : List Oper} {o : Oper} {a : Act} {Q : Exit → Act → World → Prop} (hgd : o.guard = none) (d s : Operand)
    (ho : o.op = .call { callee := .builtin .copy, args := #[d, s], argTypes := #[83, 9] })
    (g n dCap : Nat) (str : ByteArray) (hd : a.eval d = .slice (some ⟨g, 0, none⟩) n dCap) (hs : a.eval s = .string str)
    (w0 : World) (hg : ESt g w0 (List.replicate n 0) w) (hle : str.size ≤ n)
    (h : ∀ w', ESt g w0 (ls str ++ List.replicate (n - (ls str).length) 0) w' → wpList Tryz.prog ops Q rest (a.put o.dst (goInt str.size)) w') : wpList Tryz.prog ops Q (o :: rest) a w := by
  refine wpList_plain hgd fun K hK => ?_
  have hrun := Lib.run_copy_row_string (P := Tryz.prog) w 83 9 o.type 5 g 0 n dCap str (vls (List.replicate n 0)).toArray 5 Tryz.underlying83 (by kernel_rfl) hg.ro hle (by simpa [vls] using hle)
  have h' := h _ (est_copied hg str)
  generalize (w.setRow g _) = w' at hrun h'
  unfold Oper.wp
  simp [execOp, ho, resolve, invoke, builtin, hd, hs, hrun, Result.andThen]
  exact hK _ _ h'

set_option maxRecDepth 100000 in
set_option maxHeartbeats 1000000 in
theorem ending64 (r : ByteArray) (c : Nat) (w : World) (hr : r.size + 9 ≤ 64) :
    Calls Tryz.prog 88 #[.string r, .int .u64 (c : Int)] w fun e w' => e = .returned (.string (bs (endL (ls r) c))) ∧ Below w.heap.size w w' := by
  obtain ⟨i8, hj0, hy0, hy1, hy2⟩ : ∃ i, Tryz.prog.info? 5 = some i ∧ i.zero = some (.int .u8 0) ∧ i.size = 1 ∧ i.bytes = 1 := ⟨_, rfl, rfl, rfl, rfl⟩
  have hl : (ls r).length = r.size := length_ls r
  have rb : (r.size : Int) + 9 ≤ 64 := by omega
  have rc : (r.size : Int) < 64 := by omega
  have rn : (0 : Int) ≤ r.size := by omega
  have rd : (r.size : Int) < 64 := by omega
  have HR := Lib.hid (show r.size + 9 ≤ 64 by omega)
  have HZ := Lib.hid (show 64 = if (ls r).length + 9 > 64 then 128 else 64 by rw [hl]; rw [if_neg (by omega)])
  have HLS := Lib.hid hl
  clear hr hl
  go_enter Tryz.func88, Tryz.ntmps88
  have HB1 := Lib.hid (show i8.bytes * 64 ≤ 281474976710656 by rw [hy2]; decide)
  go_wp2_with (with_reducible refine wpList_make_full _ rfl (.tmp 12) (.tmp 12) 83 rfl w.heap.size 5 i8 (.int .u8 0) 1 Tryz.underlying83 hj0 hy0 hy1 .i64 .i64 64 64 64 rfl rfl rfl rfl HB1.out (by decide) (Nat.le_refl _) ?_)
  intro w1 g1 g2
  have hz : (madeCells (Value.int .u8 0).cells (64 * 1)).toList = vls (List.replicate 64 0) := zeros_made 64
  have g1' : w1.ownsRow w.heap.size 5 1 (.slice (some ⟨w.heap.size, 0, none⟩) 64 64) 64 (vls (List.replicate 64 0)) := by rw [← hz]; exact g1
  have ST := Lib.hid (est_made g1' g2)
  clear g1 g2 hz g1'
  generalize w.heap.size = g at ST ⊢
  go_wp2_with (with_reducible refine wpList_copy_est rfl (.tmp 14) (.tmp 15) rfl g 64 64 r rfl rfl w ST.out ?hle ?_)
  case hle => have := HR.out; omega
  intro w2 st0
  obtain ⟨u, cu⟩ := st0.cell r.size (by have := HR.out; have := HLS.out; simp; omega)
  have fu := frozen_of_row _ g r.size _ _ st0.ro
  have HST := Lib.hid st0
  clear st0 ST
  go_wp2_with fail
  have st1 : ESt g w ((ls r ++ List.replicate (64 - (ls r).length) 0).set (ls r).length 128) (w2.setCell ⟨g, r.size, none⟩ (.int .u8 128)) := by
    have := HST.out.put r.size 128
    rw [← HLS.out] at this ⊢
    exact this
  generalize hw3 : World.setCell w2 _ _ = w3
  have hw3' : w2.setCell ⟨g, r.size, none⟩ (.int .u8 128) = w3 := hw3
  rw [hw3'] at st1
  have hlen : ((ls r ++ List.replicate (64 - (ls r).length) 0).set (ls r).length 128).length = 64 := by have := HR.out; have := HLS.out; simp; omega
  generalize hL1 : (ls r ++ List.replicate (64 - (ls r).length) 0).set (ls r).length 128 = L1 at st1 hlen
  have HL1 := Lib.hid hL1
  have HN1 := Lib.hid hlen
  clear hw3 hw3' hL1 hlen HST cu fu
  refine wp_loop_rounds 9 ?_
  obtain ⟨u, cu⟩ := st1.cell 63 (by rw [HN1.out]; decide)
  have fu := frozen_of_row _ g 63 _ _ st1.ro
  rw [rounds_succ]
  go_wp2_with fail
  have st2 : ESt g w (L1.set (56 + 7) (bN c 1)) (w3.setCell ⟨g, 63, none⟩ (.int .u8 ((c : Int) % 256))) := by
    have := st1.put 63 (bN c 1)
    rw [bN_one] at this
    exact this
  generalize hw : World.setCell w3 _ _ = w4
  have hw' : w3.setCell ⟨g, 63, none⟩ (.int .u8 ((c : Int) % 256)) = w4 := hw
  rw [hw'] at st2
  obtain ⟨L2, hL⟩ : ∃ L, L = L1.set (56 + 7) (bN c 1) := ⟨_, rfl⟩
  rw [← hL] at st2
  have HL2 := Lib.hid hL
  have HN2 := Lib.hid (show L2.length = 64 by rw [hL, List.length_set, HN1.out])
  clear hw hw' hL cu fu st1
  obtain ⟨u, cu⟩ := st2.cell 62 (by rw [HN2.out]; decide)
  have fu := frozen_of_row _ g 62 _ _ st2.ro
  rw [rounds_succ]
  go_wp2_with fail
  have st3 : ESt g w (L2.set (56 + 6) (bN c 256)) (w4.setCell ⟨g, 62, none⟩ (.int .u8 ((c : Int) / 256 % 256))) := by
    have := st2.put 62 (bN c 256)
    rw [bN_val] at this
    exact this
  generalize hw : World.setCell w4 _ _ = w5
  have hw' : w4.setCell ⟨g, 62, none⟩ (.int .u8 ((c : Int) / 256 % 256)) = w5 := hw
  rw [hw'] at st3
  obtain ⟨L3, hL⟩ : ∃ L, L = L2.set (56 + 6) (bN c 256) := ⟨_, rfl⟩
  rw [← hL] at st3
  have HL3 := Lib.hid hL
  have HN3 := Lib.hid (show L3.length = 64 by rw [hL, List.length_set, HN2.out])
  clear hw hw' hL cu fu st2
  obtain ⟨u, cu⟩ := st3.cell 61 (by rw [HN3.out]; decide)
  have fu := frozen_of_row _ g 61 _ _ st3.ro
  rw [rounds_succ]
  go_wp2_with fail
  have st4 : ESt g w (L3.set (56 + 5) (bN c 65536)) (w5.setCell ⟨g, 61, none⟩ (.int .u8 ((c : Int) / 65536 % 256))) := by
    have := st3.put 61 (bN c 65536)
    rw [bN_val] at this
    exact this
  generalize hw : World.setCell w5 _ _ = w6
  have hw' : w5.setCell ⟨g, 61, none⟩ (.int .u8 ((c : Int) / 65536 % 256)) = w6 := hw
  rw [hw'] at st4
  obtain ⟨L4, hL⟩ : ∃ L, L = L3.set (56 + 5) (bN c 65536) := ⟨_, rfl⟩
  rw [← hL] at st4
  have HL4 := Lib.hid hL
  have HN4 := Lib.hid (show L4.length = 64 by rw [hL, List.length_set, HN3.out])
  clear hw hw' hL cu fu st3
  obtain ⟨u, cu⟩ := st4.cell 60 (by rw [HN4.out]; decide)
  have fu := frozen_of_row _ g 60 _ _ st4.ro
  rw [rounds_succ]
  go_wp2_with fail
  have st5 : ESt g w (L4.set (56 + 4) (bN c 16777216)) (w6.setCell ⟨g, 60, none⟩ (.int .u8 ((c : Int) / 16777216 % 256))) := by
    have := st4.put 60 (bN c 16777216)
    rw [bN_val] at this
    exact this
  generalize hw : World.setCell w6 _ _ = w7
  have hw' : w6.setCell ⟨g, 60, none⟩ (.int .u8 ((c : Int) / 16777216 % 256)) = w7 := hw
  rw [hw'] at st5
  obtain ⟨L5, hL⟩ : ∃ L, L = L4.set (56 + 4) (bN c 16777216) := ⟨_, rfl⟩
  rw [← hL] at st5
  have HL5 := Lib.hid hL
  have HN5 := Lib.hid (show L5.length = 64 by rw [hL, List.length_set, HN4.out])
  clear hw hw' hL cu fu st4
  obtain ⟨u, cu⟩ := st5.cell 59 (by rw [HN5.out]; decide)
  have fu := frozen_of_row _ g 59 _ _ st5.ro
  rw [rounds_succ]
  go_wp2_with fail
  have st6 : ESt g w (L5.set (56 + 3) (bN c 4294967296)) (w7.setCell ⟨g, 59, none⟩ (.int .u8 ((c : Int) / 4294967296 % 256))) := by
    have := st5.put 59 (bN c 4294967296)
    rw [bN_val] at this
    exact this
  generalize hw : World.setCell w7 _ _ = w8
  have hw' : w7.setCell ⟨g, 59, none⟩ (.int .u8 ((c : Int) / 4294967296 % 256)) = w8 := hw
  rw [hw'] at st6
  obtain ⟨L6, hL⟩ : ∃ L, L = L5.set (56 + 3) (bN c 4294967296) := ⟨_, rfl⟩
  rw [← hL] at st6
  have HL6 := Lib.hid hL
  have HN6 := Lib.hid (show L6.length = 64 by rw [hL, List.length_set, HN5.out])
  clear hw hw' hL cu fu st5
  obtain ⟨u, cu⟩ := st6.cell 58 (by rw [HN6.out]; decide)
  have fu := frozen_of_row _ g 58 _ _ st6.ro
  rw [rounds_succ]
  go_wp2_with fail
  have st7 : ESt g w (L6.set (56 + 2) (bN c 1099511627776)) (w8.setCell ⟨g, 58, none⟩ (.int .u8 ((c : Int) / 1099511627776 % 256))) := by
    have := st6.put 58 (bN c 1099511627776)
    rw [bN_val] at this
    exact this
  generalize hw : World.setCell w8 _ _ = w9
  have hw' : w8.setCell ⟨g, 58, none⟩ (.int .u8 ((c : Int) / 1099511627776 % 256)) = w9 := hw
  rw [hw'] at st7
  obtain ⟨L7, hL⟩ : ∃ L, L = L6.set (56 + 2) (bN c 1099511627776) := ⟨_, rfl⟩
  rw [← hL] at st7
  have HL7 := Lib.hid hL
  have HN7 := Lib.hid (show L7.length = 64 by rw [hL, List.length_set, HN6.out])
  clear hw hw' hL cu fu st6
  obtain ⟨u, cu⟩ := st7.cell 57 (by rw [HN7.out]; decide)
  have fu := frozen_of_row _ g 57 _ _ st7.ro
  rw [rounds_succ]
  go_wp2_with fail
  have st8 : ESt g w (L7.set (56 + 1) (bN c 281474976710656)) (w9.setCell ⟨g, 57, none⟩ (.int .u8 ((c : Int) / 281474976710656 % 256))) := by
    have := st7.put 57 (bN c 281474976710656)
    rw [bN_val] at this
    exact this
  generalize hw : World.setCell w9 _ _ = w10
  have hw' : w9.setCell ⟨g, 57, none⟩ (.int .u8 ((c : Int) / 281474976710656 % 256)) = w10 := hw
  rw [hw'] at st8
  obtain ⟨L8, hL⟩ : ∃ L, L = L7.set (56 + 1) (bN c 281474976710656) := ⟨_, rfl⟩
  rw [← hL] at st8
  have HL8 := Lib.hid hL
  have HN8 := Lib.hid (show L8.length = 64 by rw [hL, List.length_set, HN7.out])
  clear hw hw' hL cu fu st7
  obtain ⟨u, cu⟩ := st8.cell 56 (by rw [HN8.out]; decide)
  have fu := frozen_of_row _ g 56 _ _ st8.ro
  rw [rounds_succ]
  go_wp2_with fail
  have st9 : ESt g w (L8.set (56 + 0) (bN c 72057594037927936)) (w10.setCell ⟨g, 56, none⟩ (.int .u8 ((c : Int) / 72057594037927936 % 256))) := by
    have := st8.put 56 (bN c 72057594037927936)
    rw [bN_val] at this
    exact this
  generalize hw : World.setCell w10 _ _ = w11
  have hw' : w10.setCell ⟨g, 56, none⟩ (.int .u8 ((c : Int) / 72057594037927936 % 256)) = w11 := hw
  rw [hw'] at st9
  obtain ⟨L9, hL⟩ : ∃ L, L = L8.set (56 + 0) (bN c 72057594037927936) := ⟨_, rfl⟩
  rw [← hL] at st9
  have HL9 := Lib.hid hL
  have HN9 := Lib.hid (show L9.length = 64 by rw [hL, List.length_set, HN8.out])
  clear hw hw' hL cu fu st8
  rw [rounds_succ]
  have HF := Lib.hid (show L9 = endL (ls r) c by
    rw [HL9.out, HL8.out, HL7.out, HL6.out, HL5.out, HL4.out, HL3.out, HL2.out, ← HL1.out]
    exact end_all (ls r) c 64 56 rfl (by have := HR.out; have := HLS.out; omega) HZ.out)
  have hcv := est_conv st9 64 HN9.out
  have HB := Lib.hid st9.bel
  clear st9
  go_wp2_with fail
  go_ret
  exact ⟨by rw [HF.out]; rfl, HB.out⟩

set_option maxRecDepth 100000 in
set_option maxHeartbeats 1000000 in
theorem ending128 (r : ByteArray) (c : Nat) (w : World) (hr : r.size < 64 ∧ r.size + 9 > 64) :
    Calls Tryz.prog 88 #[.string r, .int .u64 (c : Int)] w fun e w' => e = .returned (.string (bs (endL (ls r) c))) ∧ Below w.heap.size w w' := by
  obtain ⟨i8, hj0, hy0, hy1, hy2⟩ : ∃ i, Tryz.prog.info? 5 = some i ∧ i.zero = some (.int .u8 0) ∧ i.size = 1 ∧ i.bytes = 1 := ⟨_, rfl, rfl, rfl, rfl⟩
  have hl : (ls r).length = r.size := length_ls r
  have rb : (r.size : Int) + 9 > 64 := by omega
  have rc : (r.size : Int) < 128 := by omega
  have rn : (0 : Int) ≤ r.size := by omega
  have rd : (r.size : Int) < 64 := by omega
  have HR := Lib.hid (show r.size + 9 ≤ 128 by omega)
  have HZ := Lib.hid (show 128 = if (ls r).length + 9 > 64 then 128 else 64 by rw [hl]; rw [if_pos (by omega)])
  have HLS := Lib.hid hl
  clear hr hl
  go_enter Tryz.func88, Tryz.ntmps88
  have HB1 := Lib.hid (show i8.bytes * 128 ≤ 281474976710656 by rw [hy2]; decide)
  go_wp2_with (with_reducible refine wpList_make_full _ rfl (.tmp 12) (.tmp 12) 83 rfl w.heap.size 5 i8 (.int .u8 0) 1 Tryz.underlying83 hj0 hy0 hy1 .i64 .i64 128 128 128 rfl rfl rfl rfl HB1.out (by decide) (Nat.le_refl _) ?_)
  intro w1 g1 g2
  have hz : (madeCells (Value.int .u8 0).cells (128 * 1)).toList = vls (List.replicate 128 0) := zeros_made 128
  have g1' : w1.ownsRow w.heap.size 5 1 (.slice (some ⟨w.heap.size, 0, none⟩) 128 128) 128 (vls (List.replicate 128 0)) := by rw [← hz]; exact g1
  have ST := Lib.hid (est_made g1' g2)
  clear g1 g2 hz g1'
  generalize w.heap.size = g at ST ⊢
  go_wp2_with (with_reducible refine wpList_copy_est rfl (.tmp 14) (.tmp 15) rfl g 128 128 r rfl rfl w ST.out ?hle ?_)
  case hle => have := HR.out; omega
  intro w2 st0
  obtain ⟨u, cu⟩ := st0.cell r.size (by have := HR.out; have := HLS.out; simp; omega)
  have fu := frozen_of_row _ g r.size _ _ st0.ro
  have HST := Lib.hid st0
  clear st0 ST
  go_wp2_with fail
  have st1 : ESt g w ((ls r ++ List.replicate (128 - (ls r).length) 0).set (ls r).length 128) (w2.setCell ⟨g, r.size, none⟩ (.int .u8 128)) := by
    have := HST.out.put r.size 128
    rw [← HLS.out] at this ⊢
    exact this
  generalize hw3 : World.setCell w2 _ _ = w3
  have hw3' : w2.setCell ⟨g, r.size, none⟩ (.int .u8 128) = w3 := hw3
  rw [hw3'] at st1
  have hlen : ((ls r ++ List.replicate (128 - (ls r).length) 0).set (ls r).length 128).length = 128 := by have := HR.out; have := HLS.out; simp; omega
  generalize hL1 : (ls r ++ List.replicate (128 - (ls r).length) 0).set (ls r).length 128 = L1 at st1 hlen
  have HL1 := Lib.hid hL1
  have HN1 := Lib.hid hlen
  clear hw3 hw3' hL1 hlen HST cu fu
  refine wp_loop_rounds 9 ?_
  obtain ⟨u, cu⟩ := st1.cell 127 (by rw [HN1.out]; decide)
  have fu := frozen_of_row _ g 127 _ _ st1.ro
  rw [rounds_succ]
  go_wp2_with fail
  have st2 : ESt g w (L1.set (120 + 7) (bN c 1)) (w3.setCell ⟨g, 127, none⟩ (.int .u8 ((c : Int) % 256))) := by
    have := st1.put 127 (bN c 1)
    rw [bN_one] at this
    exact this
  generalize hw : World.setCell w3 _ _ = w4
  have hw' : w3.setCell ⟨g, 127, none⟩ (.int .u8 ((c : Int) % 256)) = w4 := hw
  rw [hw'] at st2
  obtain ⟨L2, hL⟩ : ∃ L, L = L1.set (120 + 7) (bN c 1) := ⟨_, rfl⟩
  rw [← hL] at st2
  have HL2 := Lib.hid hL
  have HN2 := Lib.hid (show L2.length = 128 by rw [hL, List.length_set, HN1.out])
  clear hw hw' hL cu fu st1
  obtain ⟨u, cu⟩ := st2.cell 126 (by rw [HN2.out]; decide)
  have fu := frozen_of_row _ g 126 _ _ st2.ro
  rw [rounds_succ]
  go_wp2_with fail
  have st3 : ESt g w (L2.set (120 + 6) (bN c 256)) (w4.setCell ⟨g, 126, none⟩ (.int .u8 ((c : Int) / 256 % 256))) := by
    have := st2.put 126 (bN c 256)
    rw [bN_val] at this
    exact this
  generalize hw : World.setCell w4 _ _ = w5
  have hw' : w4.setCell ⟨g, 126, none⟩ (.int .u8 ((c : Int) / 256 % 256)) = w5 := hw
  rw [hw'] at st3
  obtain ⟨L3, hL⟩ : ∃ L, L = L2.set (120 + 6) (bN c 256) := ⟨_, rfl⟩
  rw [← hL] at st3
  have HL3 := Lib.hid hL
  have HN3 := Lib.hid (show L3.length = 128 by rw [hL, List.length_set, HN2.out])
  clear hw hw' hL cu fu st2
  obtain ⟨u, cu⟩ := st3.cell 125 (by rw [HN3.out]; decide)
  have fu := frozen_of_row _ g 125 _ _ st3.ro
  rw [rounds_succ]
  go_wp2_with fail
  have st4 : ESt g w (L3.set (120 + 5) (bN c 65536)) (w5.setCell ⟨g, 125, none⟩ (.int .u8 ((c : Int) / 65536 % 256))) := by
    have := st3.put 125 (bN c 65536)
    rw [bN_val] at this
    exact this
  generalize hw : World.setCell w5 _ _ = w6
  have hw' : w5.setCell ⟨g, 125, none⟩ (.int .u8 ((c : Int) / 65536 % 256)) = w6 := hw
  rw [hw'] at st4
  obtain ⟨L4, hL⟩ : ∃ L, L = L3.set (120 + 5) (bN c 65536) := ⟨_, rfl⟩
  rw [← hL] at st4
  have HL4 := Lib.hid hL
  have HN4 := Lib.hid (show L4.length = 128 by rw [hL, List.length_set, HN3.out])
  clear hw hw' hL cu fu st3
  obtain ⟨u, cu⟩ := st4.cell 124 (by rw [HN4.out]; decide)
  have fu := frozen_of_row _ g 124 _ _ st4.ro
  rw [rounds_succ]
  go_wp2_with fail
  have st5 : ESt g w (L4.set (120 + 4) (bN c 16777216)) (w6.setCell ⟨g, 124, none⟩ (.int .u8 ((c : Int) / 16777216 % 256))) := by
    have := st4.put 124 (bN c 16777216)
    rw [bN_val] at this
    exact this
  generalize hw : World.setCell w6 _ _ = w7
  have hw' : w6.setCell ⟨g, 124, none⟩ (.int .u8 ((c : Int) / 16777216 % 256)) = w7 := hw
  rw [hw'] at st5
  obtain ⟨L5, hL⟩ : ∃ L, L = L4.set (120 + 4) (bN c 16777216) := ⟨_, rfl⟩
  rw [← hL] at st5
  have HL5 := Lib.hid hL
  have HN5 := Lib.hid (show L5.length = 128 by rw [hL, List.length_set, HN4.out])
  clear hw hw' hL cu fu st4
  obtain ⟨u, cu⟩ := st5.cell 123 (by rw [HN5.out]; decide)
  have fu := frozen_of_row _ g 123 _ _ st5.ro
  rw [rounds_succ]
  go_wp2_with fail
  have st6 : ESt g w (L5.set (120 + 3) (bN c 4294967296)) (w7.setCell ⟨g, 123, none⟩ (.int .u8 ((c : Int) / 4294967296 % 256))) := by
    have := st5.put 123 (bN c 4294967296)
    rw [bN_val] at this
    exact this
  generalize hw : World.setCell w7 _ _ = w8
  have hw' : w7.setCell ⟨g, 123, none⟩ (.int .u8 ((c : Int) / 4294967296 % 256)) = w8 := hw
  rw [hw'] at st6
  obtain ⟨L6, hL⟩ : ∃ L, L = L5.set (120 + 3) (bN c 4294967296) := ⟨_, rfl⟩
  rw [← hL] at st6
  have HL6 := Lib.hid hL
  have HN6 := Lib.hid (show L6.length = 128 by rw [hL, List.length_set, HN5.out])
  clear hw hw' hL cu fu st5
  obtain ⟨u, cu⟩ := st6.cell 122 (by rw [HN6.out]; decide)
  have fu := frozen_of_row _ g 122 _ _ st6.ro
  rw [rounds_succ]
  go_wp2_with fail
  have st7 : ESt g w (L6.set (120 + 2) (bN c 1099511627776)) (w8.setCell ⟨g, 122, none⟩ (.int .u8 ((c : Int) / 1099511627776 % 256))) := by
    have := st6.put 122 (bN c 1099511627776)
    rw [bN_val] at this
    exact this
  generalize hw : World.setCell w8 _ _ = w9
  have hw' : w8.setCell ⟨g, 122, none⟩ (.int .u8 ((c : Int) / 1099511627776 % 256)) = w9 := hw
  rw [hw'] at st7
  obtain ⟨L7, hL⟩ : ∃ L, L = L6.set (120 + 2) (bN c 1099511627776) := ⟨_, rfl⟩
  rw [← hL] at st7
  have HL7 := Lib.hid hL
  have HN7 := Lib.hid (show L7.length = 128 by rw [hL, List.length_set, HN6.out])
  clear hw hw' hL cu fu st6
  obtain ⟨u, cu⟩ := st7.cell 121 (by rw [HN7.out]; decide)
  have fu := frozen_of_row _ g 121 _ _ st7.ro
  rw [rounds_succ]
  go_wp2_with fail
  have st8 : ESt g w (L7.set (120 + 1) (bN c 281474976710656)) (w9.setCell ⟨g, 121, none⟩ (.int .u8 ((c : Int) / 281474976710656 % 256))) := by
    have := st7.put 121 (bN c 281474976710656)
    rw [bN_val] at this
    exact this
  generalize hw : World.setCell w9 _ _ = w10
  have hw' : w9.setCell ⟨g, 121, none⟩ (.int .u8 ((c : Int) / 281474976710656 % 256)) = w10 := hw
  rw [hw'] at st8
  obtain ⟨L8, hL⟩ : ∃ L, L = L7.set (120 + 1) (bN c 281474976710656) := ⟨_, rfl⟩
  rw [← hL] at st8
  have HL8 := Lib.hid hL
  have HN8 := Lib.hid (show L8.length = 128 by rw [hL, List.length_set, HN7.out])
  clear hw hw' hL cu fu st7
  obtain ⟨u, cu⟩ := st8.cell 120 (by rw [HN8.out]; decide)
  have fu := frozen_of_row _ g 120 _ _ st8.ro
  rw [rounds_succ]
  go_wp2_with fail
  have st9 : ESt g w (L8.set (120 + 0) (bN c 72057594037927936)) (w10.setCell ⟨g, 120, none⟩ (.int .u8 ((c : Int) / 72057594037927936 % 256))) := by
    have := st8.put 120 (bN c 72057594037927936)
    rw [bN_val] at this
    exact this
  generalize hw : World.setCell w10 _ _ = w11
  have hw' : w10.setCell ⟨g, 120, none⟩ (.int .u8 ((c : Int) / 72057594037927936 % 256)) = w11 := hw
  rw [hw'] at st9
  obtain ⟨L9, hL⟩ : ∃ L, L = L8.set (120 + 0) (bN c 72057594037927936) := ⟨_, rfl⟩
  rw [← hL] at st9
  have HL9 := Lib.hid hL
  have HN9 := Lib.hid (show L9.length = 128 by rw [hL, List.length_set, HN8.out])
  clear hw hw' hL cu fu st8
  rw [rounds_succ]
  have HF := Lib.hid (show L9 = endL (ls r) c by
    rw [HL9.out, HL8.out, HL7.out, HL6.out, HL5.out, HL4.out, HL3.out, HL2.out, ← HL1.out]
    exact end_all (ls r) c 128 120 rfl (by have := HR.out; have := HLS.out; omega) HZ.out)
  have hcv := est_conv st9 128 HN9.out
  have HB := Lib.hid st9.bel
  clear st9
  go_wp2_with fail
  go_ret
  exact ⟨by rw [HF.out]; rfl, HB.out⟩
end Go.Proofs.YtfckjilhkdlpfaaGreatDoor

namespace Go.Proofs.YtfckjilhkdlpfaaGreatDoor
open Go.RowKit MS
theorem wpQuiet_load_row {P : Program} {ops : Array Oper} {C : World → Prop} {Q : Act → Prop} {a : Act} {o : Oper} {rest : List Oper} (hgd : o.guard = none) (ty : TypeId) (x : Operand) (ho : o.op = .load ty x)
    (g : Nat) (hx : a.eval x = .pointer (some ⟨g, 0, none⟩)) (t : TypeId) (cs : Array Value) (fr : Nat × Nat) (d : TypeDesc) (hC : ∀ w, C w → w.heap[g]? = some (.cells cs t fr))
    (hu : P.underlying ty = some d) (hd : (match d with | .struct _ | .array _ _ => true | _ => false) = true) (hi : (P.info? ty).map (·.size) = some cs.size)
    (h : wpQuiet P ops C Q rest (a.put o.dst (.agg cs))) : wpQuiet P ops C Q (o :: rest) a := by
  show if Region.wanted o (yielded ops a.tmps) = true then _ else _
  rw [if_pos (by simp [Region.wanted, hgd])]
  refine ⟨.agg cs, fun w hw => ?_, h⟩
  unfold Oper.quietAt execOp
  simp only [ho, hx, Instr.loadAt, Instr.sureAddr, Sem.run_bind, Sem.run_pure, Result.andThen_ok, run_loadVar_row w g t ty cs fr d (hC w hw) hu hd hi]
  exact ⟨rfl, rfl⟩

theorem ext_ext (s : ByteArray) (i a b : Nat) (hb : i + b ≤ s.size) : (s.extract i s.size).extract a b = s.extract (i + a) (i + b) := by
  apply ls_inj
  rw [ls_extract, ls_extract, ls_extract]
  apply List.ext_getElem?
  intro j
  simp only [List.getElem?_take, List.getElem?_drop]
  by_cases h : j < b - a
  · rw [if_pos h, if_pos (by omega), if_pos (by omega), Nat.add_assoc]
  · rw [if_neg h, if_neg (by omega)]
theorem size_ext (s : ByteArray) (i : Nat) : (s.extract i s.size).size = s.size - i := by
  rw [ByteArray.size_extract]
  omega
theorem size_ext2 (s : ByteArray) (i j : Nat) (h : j ≤ s.size) : (s.extract i j).size = j - i := by
  rw [ByteArray.size_extract]
  omega

/-- The state behind m blocks. -/
def bwT (t : ByteArray) (m : Nat) : Nat → W32 := be (t.extract (64 * m) (64 * m + 64))
def hs (bw : Nat → Nat → W32) (st : Array W32) : Nat → Array W32
  | 0 => st
  | m + 1 => blk8 (hs bw st m) (bw m)
structure USt (w0 : World) (st : Array W32) (w : World) : Prop where
  sz : st.size = 8
  r0 : w.heap[w0.heap.size]? = some (.cells (rowW st) 116 (0, 0))
  bel : Below w0.heap.size w0 w
theorem USt.on {w0 w w' : World} {st : Array W32} (h : USt w0 st w) (hb : Below w.heap.size w w') : USt w0 st w' :=
  ⟨h.sz, (hb.block _ (Array.getElem?_eq_some_iff.1 h.r0).1).trans h.r0, h.bel.trans (hb.mono h.bel.size)⟩
theorem USt.drewN {w0 w : World} {st : Array W32} (h : USt w0 st w) (k : Nat) : USt w0 st (w.drewN k) := ⟨h.sz, h.r0, below_drewN h.bel k⟩
theorem USt.put {w0 w : World} {st : Array W32} (h : USt w0 st w) (st' : Array W32) (h' : st'.size = 8) : USt w0 st' (w.setRow w0.heap.size (rowW st')) :=
  ⟨h', setRow_heap w _ _ _ _ _ h.r0, below_setRow h.bel (Nat.le_refl _) _⟩
theorem USt.info {st : Array W32} (h : st.size = 8) : (Tryz.prog.info? 116).map (·.size) = some (rowW st).size := by rw [size_rowW, h]; kernel_rfl
theorem ust_start (w : World) : USt w IV ((w.alloc (.cells #[.int .u32 0, .int .u32 0, .int .u32 0, .int .u32 0, .int .u32 0, .int .u32 0, .int .u32 0, .int .u32 0] 116 (0, 0))).setRow w.heap.size (rowW IV)) :=
  ⟨rfl, setRow_heap _ _ _ _ _ _ (MapKept.heap_alloc w _).1, below_setRow (below_alloc (Below.refl _ _) _) (Nat.le_refl _) _⟩
theorem ending_any (r : ByteArray) (n : Nat) (w : World) (hr : r.size < 64) :
    Calls Tryz.prog 88 #[.string r, .int .u64 ((n : Int) * 8)] w fun e w' => e = .returned (.string (bs (endL (ls r) (n * 8)))) ∧ Below w.heap.size w w' := by
  have e : ((n * 8 : Nat) : Int) = (n : Int) * 8 := by omega
  by_cases h : r.size + 9 ≤ 64
  · have := ending64 r (n * 8) w h
    rwa [e] at this
  · have := ending128 r (n * 8) w ⟨hr, by omega⟩
    rwa [e] at this
def bW (x : W32) (m : Nat) : UInt8 := UInt8.ofNat (x.toNat / m % 256)
theorem bW_val (x : W32) (m : Nat) : valB (bW x m) = .int .u8 (wv x / m % 256) := by
  unfold valB bW wv
  have : (UInt8.ofNat (x.toNat / m % 256)).toNat = x.toNat / m % 256 := by simp
  rw [this]
  congr 1
theorem bW_one (x : W32) : valB (bW x 1) = .int .u8 (wv x % 256) := by
  rw [bW_val]
  simp
def dg (st : Array W32) : Nat → List UInt8
  | 0 => []
  | i + 1 => dg st i ++ [bW (st.getD i 0) 16777216, bW (st.getD i 0) 65536, bW (st.getD i 0) 256, bW (st.getD i 0) 1]
theorem length_dg (st : Array W32) (i : Nat) : (dg st i).length = 4 * i := by
  induction i with
  | zero => rfl
  | succ i ih => simp [dg, ih]; omega
theorem four_cell (w : World) (x y z u : Value) (T : Nat) : ∀ j v, [x, y, z, u][j]? = some v → (w.alloc (.cells #[x, y, z, u] T (0, 0))).cell? ((⟨w.heap.size, 0, none⟩ : Addr).add j) = some v := by
  intro j v hu
  have h := cell_of_row (w.alloc (.cells #[x, y, z, u] T (0, 0))) w.heap.size j #[x, y, z, u] T (0, 0) (MapKept.heap_alloc w _).1
  have e : (⟨w.heap.size, 0, none⟩ : Addr).add j = ⟨w.heap.size, j, none⟩ := by unfold Addr.add; split <;> simp_all
  rw [e, h, ← hu]
  simp
def lastB (s : ByteArray) : ByteArray := bs (endL (ls (s.extract (64 * (s.size / 64)) s.size)) (s.size * 8))
def fin (s : ByteArray) : Array W32 := hs (bwT (lastB s)) (hs (bwT s) IV (s.size / 64)) ((lastB s).size / 64)
def sumB (s : ByteArray) : ByteArray := bs (dg (fin s) 8)
def strLen : Value → Nat
  | .string b => b.size
  | _ => 0

set_option maxRecDepth 100000 in
set_option maxHeartbeats 1000000 in
theorem sum_any (s : ByteArray) (w : World) (hsz : s.size ≤ 100000) (G : Glob w) :
    Calls Tryz.prog 60 #[.string s] w fun e w' => e = .returned (.string (sumB s)) ∧ Below w.heap.size w w' := by
  obtain ⟨i8, hj0, hy0, hy1, hy2⟩ : ∃ i, Tryz.prog.info? 5 = some i ∧ i.zero = some (.int .u8 0) ∧ i.size = 1 ∧ i.bytes = 1 := ⟨_, rfl, rfl, rfl, rfl⟩
  obtain ⟨t0, fr0, h0⟩ := G.g0
  have HG := Lib.hid G
  have HLT := Lib.hid G.lt
  have sb : (s.size : Int) ≤ 100000 := by omega
  have sn : (0 : Int) ≤ s.size := by omega
  have HSZ := Lib.hid hsz
  have H0 := Lib.hid h0
  have HST := Lib.hid (ust_start w)
  have HIV := Lib.hid (USt.info (st := IV) rfl)
  have H1 := Lib.hid (MapKept.heap_alloc w (.cells #[.int .u32 0, .int .u32 0, .int .u32 0, .int .u32 0, .int .u32 0, .int .u32 0, .int .u32 0, .int .u32 0] 116 (0, 0))).1
  clear h0 hsz G
  go_enter Tryz.func60, Tryz.ntmps60
  go_wp2_with (first
    | (with_reducible refine wpList_load_row rfl 116 (.global 1) rfl 1 rfl t0 (rowW IV) fr0 _ ?hg0 Tryz.underlying116 rfl HIV.out ?_)
    | (with_reducible refine wpList_store_row rfl 116 (.tmp 3) (.tmp 9) rfl w.heap.size (rowW IV) rfl rfl 116 #[.int .u32 0, .int .u32 0, .int .u32 0, .int .u32 0, .int .u32 0, .int .u32 0, .int .u32 0, .int .u32 0] ?hg1 HIV.out ?hl1 (one_rowW IV) ?_))
  case hg0 => exact H0.out
  case hg1 => exact H1.out
  case hl1 => rw [size_rowW]; rfl
  generalize hw3 : World.setRow _ _ _ = w3
  have st3 : USt w IV w3 := by rw [← hw3]; exact HST.out
  clear hw3 H0 H1 HST
  go_loopw [4] (fun v wr => ∃ (m : Nat) (b : ByteArray), 64 * m ≤ (s).size ∧ v = .string b ∧ b = (s).extract (64 * m) (s).size ∧ USt w (hs (bwT (s)) IV m) wr) (fun v _ => strLen v)
  case atStart => exact ⟨0, _, by omega, rfl, by simp, st3⟩
  case round =>
    obtain ⟨m, b, hm, rfl, hb, st⟩ := hrel
    have hbs : b.size = (s).size - 64 * m := by rw [hb, size_ext]
    have HB := Lib.hid hb
    have HBS := Lib.hid hbs
    have HM := Lib.hid hm
    have HU := Lib.hid st
    clear hb hm st st3
    by_cases h64 : 64 ≤ b.size
    · have hi : (b.size : Int) ≥ 64 := by omega
      have E1 := Lib.hid (show b.extract 0 64 = (s).extract (64 * m) (64 * m + 64) by rw [HB.out, ext_ext _ _ _ _ (by have := HM.out; omega)]; rfl)
      have E2 := Lib.hid (show b.extract 64 b.size = (s).extract (64 * (m + 1)) (s).size by
        rw [hbs, HB.out, ext_ext _ _ _ _ (by have := HM.out; omega)]
        congr 1
        have := HM.out
        omega)
      have H64 := Lib.hid h64
      have HI := Lib.hid (USt.info HU.out.sz)
      have h0 : (64 : Int) ≤ b.size := by omega
      clear hbs h64
      generalize hST : hs (bwT (s)) IV m = ST at HU HI
      have HST := Lib.hid hST
      clear hST
      go_wp2_with fail
      refine wp_region_draws_tail 3 (by kernel_rfl) (by kernel_rfl) ?_
      simp only [List.take_succ_cons, List.take_zero, List.drop_succ_cons, List.drop_zero]
      refine wpQuiet_load_row rfl 116 (.tmp 3) rfl w.heap.size rfl 116 (rowW ST) (0, 0) _ ?hC Tryz.underlying116 rfl HI.out ?_
      case hC => rintro w' ⟨k, rfl⟩; exact HU.out.r0
      simp only [Act.put, List.setIfInBounds_toArray, List.set_cons_zero, List.set_cons_succ]
      repeat (go_big_quiet_step (fail))
      refine wpQuiet_nil ?_
      intro _ hw'
      obtain ⟨kk, hw''⟩ := hw'
      subst hw''
      have HUQ := Lib.hid (HU.out.drewN kk)
      generalize wr.drewN kk = wq at HUQ ⊢
      have GQ := Lib.hid (HG.out.on HUQ.out.bel)
      go_wp2_with fail
      refine (sblock_yes ST (b.extract 0 64) wq HU.out.sz (by rw [size_ext2 _ _ _ H64.out]) GQ.out).mono ?_
      rintro e w5 ⟨rfl, hb5⟩
      have HU5 := Lib.hid (HUQ.out.on hb5)
      have HU6 := Lib.hid (HU5.out.put (blk8 ST (be (b.extract 0 64))) rfl)
      have HL := Lib.hid (show (rowW ST).size = (rowW (blk8 ST (be (b.extract 0 64)))).size by rw [size_rowW, size_rowW, HU.out.sz]; rfl)
      have HI6 := Lib.hid (USt.info (st := blk8 ST (be (b.extract 0 64))) rfl)
      generalize hN : blk8 ST (be (b.extract 0 64)) = NS at HU6 HL HI6 ⊢
      have HN := Lib.hid hN
      clear hb5 hN
      go_wp2_with (with_reducible refine wpList_store_row rfl 116 (.tmp 3) (.tmp 17) rfl w.heap.size (rowW NS) rfl rfl 116 (rowW ST) ?hg HI6.out HL.out (one_rowW NS) ?_)
      case hg => exact HU5.out.r0
      go_roundw
      case rel =>
        refine ⟨m + 1, _, by have := HM.out; have := HBS.out; have := H64.out; omega, rfl, E2.out, ?_⟩
        rw [hs, HST.out, bwT, ← E1.out, HN.out]
        exact HU6.out
      case measure =>
        show (b.extract 64 b.size).size < b.size
        rw [size_ext]
        have := H64.out
        omega
    · have hi : ¬ ((b.size : Int) ≥ 64) := by omega
      have hbl : b.size < 64 := by omega
      have hmm : m = s.size / 64 := by have := HM.out; omega
      have HE := Lib.hid (fun w => ending_any b s.size w hbl)
      have hlast : bs (endL (ls b) (s.size * 8)) = lastB s := by rw [lastB, ← hmm, ← HB.out]
      rw [hlast] at HE
      have hTs : (lastB s).size = 64 ∨ (lastB s).size = 128 := by
        rw [← hlast, size_bs, length_endL _ _ (by rw [length_ls]; exact hbl)]
        split <;> omega
      have hST1 : hs (bwT s) IV m = hs (bwT s) IV (s.size / 64) := by rw [hmm]
      have HS8 := Lib.hid HU.out.sz
      have st4 := HU.out
      rw [hST1] at st4
      have HTS := Lib.hid hTs
      have HFN := Lib.hid (show fin s = hs (bwT (lastB s)) (hs (bwT s) IV (s.size / 64)) ((lastB s).size / 64) from rfl)
      generalize hs (bwT s) IV (s.size / 64) = S1 at st4 HFN
      generalize lastB s = T at HE HTS HFN
      have HU4 := Lib.hid st4
      clear hbs h64 hbl hmm hlast hTs hST1 st4
      go_wp2_with fail
      refine (HE.out _).mono ?_
      rintro e w6 ⟨rfl, hb6⟩
      have st6 := HU4.out.on hb6
      clear hb6
      go_wp2_with fail
      go_loopw [5] (fun v wr => ∃ (m : Nat) (b : ByteArray), 64 * m ≤ (T).size ∧ v = .string b ∧ b = (T).extract (64 * m) (T).size ∧ USt w (hs (bwT (T)) S1 m) wr) (fun v _ => strLen v)
      case atStart => exact ⟨0, _, by omega, rfl, by simp, st6⟩
      case round =>
        obtain ⟨m, b, hm, rfl, hb, st⟩ := hrel
        have hbs : b.size = (T).size - 64 * m := by rw [hb, size_ext]
        have HB := Lib.hid hb
        have HBS := Lib.hid hbs
        have HM := Lib.hid hm
        have HU := Lib.hid st
        clear hb hm st st6
        by_cases h64 : 64 ≤ b.size
        · have hi : (b.size : Int) ≥ 64 := by omega
          have E1 := Lib.hid (show b.extract 0 64 = (T).extract (64 * m) (64 * m + 64) by rw [HB.out, ext_ext _ _ _ _ (by have := HM.out; omega)]; rfl)
          have E2 := Lib.hid (show b.extract 64 b.size = (T).extract (64 * (m + 1)) (T).size by
            rw [hbs, HB.out, ext_ext _ _ _ _ (by have := HM.out; omega)]
            congr 1
            have := HM.out
            omega)
          have H64 := Lib.hid h64
          have HI := Lib.hid (USt.info HU.out.sz)
          have h0 : (64 : Int) ≤ b.size := by omega
          clear hbs h64
          generalize hST : hs (bwT (T)) S1 m = ST at HU HI
          have HST := Lib.hid hST
          clear hST
          go_wp2_with fail
          refine wp_region_draws_tail 3 (by kernel_rfl) (by kernel_rfl) ?_
          simp only [List.take_succ_cons, List.take_zero, List.drop_succ_cons, List.drop_zero]
          refine wpQuiet_load_row rfl 116 (.tmp 3) rfl w.heap.size rfl 116 (rowW ST) (0, 0) _ ?hC Tryz.underlying116 rfl HI.out ?_
          case hC => rintro w' ⟨k, rfl⟩; exact HU.out.r0
          simp only [Act.put, List.setIfInBounds_toArray, List.set_cons_zero, List.set_cons_succ]
          repeat (go_big_quiet_step (fail))
          refine wpQuiet_nil ?_
          intro _ hw'
          obtain ⟨kk, hw''⟩ := hw'
          subst hw''
          have HUQ := Lib.hid (HU.out.drewN kk)
          generalize wr.drewN kk = wq at HUQ ⊢
          have GQ := Lib.hid (HG.out.on HUQ.out.bel)
          go_wp2_with fail
          refine (sblock_yes ST (b.extract 0 64) wq HU.out.sz (by rw [size_ext2 _ _ _ H64.out]) GQ.out).mono ?_
          rintro e w5 ⟨rfl, hb5⟩
          have HU5 := Lib.hid (HUQ.out.on hb5)
          have HU6 := Lib.hid (HU5.out.put (blk8 ST (be (b.extract 0 64))) rfl)
          have HL := Lib.hid (show (rowW ST).size = (rowW (blk8 ST (be (b.extract 0 64)))).size by rw [size_rowW, size_rowW, HU.out.sz]; rfl)
          have HI6 := Lib.hid (USt.info (st := blk8 ST (be (b.extract 0 64))) rfl)
          generalize hN : blk8 ST (be (b.extract 0 64)) = NS at HU6 HL HI6 ⊢
          have HN := Lib.hid hN
          clear hb5 hN
          go_wp2_with (with_reducible refine wpList_store_row rfl 116 (.tmp 3) (.tmp 32) rfl w.heap.size (rowW NS) rfl rfl 116 (rowW ST) ?hg HI6.out HL.out (one_rowW NS) ?_)
          case hg => exact HU5.out.r0
          go_roundw
          case rel =>
            refine ⟨m + 1, _, by have := HM.out; have := HBS.out; have := H64.out; omega, rfl, E2.out, ?_⟩
            rw [hs, HST.out, bwT, ← E1.out, HN.out]
            exact HU6.out
          case measure =>
            show (b.extract 64 b.size).size < b.size
            rw [size_ext]
            have := H64.out
            omega
        · have hi : ¬ ((b.size : Int) ≥ 64) := by omega
          have hmm : m = T.size / 64 := by have := HM.out; omega
          have hfs : hs (bwT T) S1 m = fin s := by rw [HFN.out, hmm]
          have st7 := HU.out
          rw [hfs] at st7
          have HSM := Lib.hid (show sumB s = bs (dg (fin s) 8) from rfl)
          generalize fin s = F at st7 HSM
          have HF := Lib.hid st7.r0
          have HFS := Lib.hid st7.sz
          have HIF := Lib.hid (USt.info st7.sz)
          have HBL := Lib.hid st7.bel
          have HB1 := Lib.hid (show i8.bytes * 32 ≤ 281474976710656 by rw [hy2]; decide)
          have HSB := Lib.hid (show w.heap.size ≤ wr.heap.size from st7.bel.size)
          clear hfs hmm h64 hbs st7
          go_wp2_with (with_reducible refine wpList_make_own _ rfl (.const (.int .i64 0)) (.const (.int .i64 32)) 83 rfl w.heap.size 5 i8 (.int .u8 0) 1 Tryz.underlying83 hj0 hy0 hy1 .i64 .i64 32 32 rfl rfl rfl HB1.out (by decide) HSB.out ?_)
          intro w7 g1 g2
          have HG1 := Lib.hid g1
          have HB7 := Lib.hid (HBL.out.grown g2 HSB.out (by intro k e; cases e))
          have hr7 := (g2.block _ (Array.getElem?_eq_some_iff.1 HF.out).1 (by simp)).trans HF.out
          have HR7 := Lib.hid hr7
          clear g1 g2 hr7
          go_wp2_with (with_reducible refine wpList_load_row rfl 116 (.tmp 3) rfl w.heap.size rfl 116 (rowW F) (0, 0) _ ?hgf Tryz.underlying116 rfl HIF.out ?_)
          case hgf => exact HR7.out
          go_loopw [6, 37] (fun v i wr => ∃ j : Nat, j ≤ 8 ∧ i = .int .i64 j ∧ (∃ g cap, v = .slice (some ⟨g, 0, none⟩) (4 * j) cap) ∧ wr.ownsRow w.heap.size 5 1 v (4 * j) (vls (dg F j)) ∧ Below w.heap.size w wr) (fun _ i _ => 8 - (intOf i).toNat)
          case atStart => exact ⟨0, by omega, rfl, ⟨_, _, rfl⟩, HG1.out, HB7.out⟩
          case round =>
            obtain ⟨j, hj, rfl, hv, hown, hnx⟩ := hrel
            have HOWN := Lib.hid hown
            have HNX := Lib.hid hnx
            have HVV := Lib.hid hv
            clear hown hnx hv
            by_cases hjN : j < 8
            · have ji : (j : Int) < 8 := by omega
              have jn : (0 : Int) ≤ j := Int.natCast_nonneg j
              have hix := fun w => run_index_row 116 8 Tryz.underlying116 F HFS.out j hjN w
              generalize hx : F.getD j 0 = x at hix
              have HX := Lib.hid hx
              have hs0 := HNX.out.size
              have HA := Lib.hid (HOWN.out.alloc (.cells #[.int .u8 (wv x / 16777216 % 256), .int .u8 (wv x / 65536 % 256), .int .u8 (wv x / 256 % 256), .int .u8 (wv x % 256)] 5 (0, 0)))
              have HM := Lib.hid (show 4 * j + 4 ≤ maxLen by unfold maxLen; omega)
              have HN := Lib.hid (show (4 * j + 4) * 1 ≤ 140737488355328 by omega)
              have H4 := Lib.hid (show ∀ u ∈ [Value.int .u8 (wv x / 16777216 % 256), .int .u8 (wv x / 65536 % 256), .int .u8 (wv x / 256 % 256), .int .u8 (wv x % 256)], u.oneCell' = true by simp [Value.oneCell'])
              clear hx
              go_wp2_with (at_builtin; refine wpList_append_own _ rfl (.tmp 40) (.tmp 52) 83 rfl _ 5 i8 (.int .u8 0) 1 1 Tryz.underlying83 hj0 hy0 hy1 hy2 rfl (by decide) _ _ _ rfl HA.out ⟨wr.heap.size, 0, none⟩ 4 4 [.int .u8 (wv x / 16777216 % 256), .int .u8 (wv x / 65536 % 256), .int .u8 (wv x / 256 % 256), .int .u8 (wv x % 256)] rfl rfl (four_cell wr _ _ _ _ _) H4.out HM.out HN.out (le_alloc hs0 _) ?_)
              intro v1 w8 h1 h2 h3
              have HB8 := Lib.hid (below_app HNX.out _ _ _ _ _ HOWN.out h2)
              have HO8 := Lib.hid h1
              clear h1 h2 h3 hs0
              go_wp2_with fail
              go_roundw
              case rel =>
                obtain ⟨g, cap, hg, _⟩ := HO8.out.form (by omega)
                refine ⟨j + 1, by omega, by go_num, ⟨g, cap, hg⟩, ?_, HB8.out⟩
                have := HO8.out
                rw [dg, HX.out, vls, List.map_append, show 4 * (j + 1) = 4 * j + 4 by omega]
                rw [List.map_cons, List.map_cons, List.map_cons, List.map_cons, List.map_nil, bW_val, bW_val, bW_val, bW_one]
                exact this
              case measure => simp [intOf]; omega
            · have ji : ¬ ((j : Int) < 8) := by omega
              have hj8 : j = 8 := by omega
              have HO6 := HOWN.out
              obtain ⟨g, cap, rfl⟩ := HVV.out
              rw [hj8] at HO6 ⊢
              have hcv := conv_out (dg F 8) (4 * 8) (length_dg _ _) HO6
              have HFF := Lib.hid HNX.out
              clear HO6 hj8 hjN HOWN HNX HVV
              go_wp2_with fail
              go_ret
              exact ⟨by rw [HSM.out]; rfl, HFF.out⟩
end Go.Proofs.YtfckjilhkdlpfaaGreatDoor

namespace Go.Proofs.YtfckjilhkdlpfaaGreatDoor
open Go.RowKit MS
theorem size_sumB (s : ByteArray) : (sumB s).size = 32 := by
  rw [sumB, size_bs, length_dg]

end Go.Proofs.YtfckjilhkdlpfaaGreatDoor

namespace Go.Proofs.YtfckjilhkdlpfaaGreatDoor
open Go.RowKit MS
def mixl (l : List UInt8) (f : Nat → UInt8) (p : Nat) : List UInt8 := (List.range l.length).map fun i => if i < p then l.getD i 0 ^^^ f i else l.getD i 0
theorem length_mixl (l : List UInt8) (f : Nat → UInt8) (p : Nat) : (mixl l f p).length = l.length := by simp [mixl]
theorem mixl_zero (l : List UInt8) (f : Nat → UInt8) : mixl l f 0 = l := by
  apply List.ext_getElem?
  intro i
  by_cases h : i < l.length
  · simp [mixl, h]
  · simp [mixl, h]
theorem mixl_get (l : List UInt8) (f : Nat → UInt8) (p i : Nat) (h : i < l.length) : (mixl l f p)[i]? = some (if i < p then l.getD i 0 ^^^ f i else l.getD i 0) := by
  simp [mixl, h]
theorem mixl_step (l : List UInt8) (f : Nat → UInt8) (p : Nat) (hp : p < l.length) : (mixl l f p).set p (l.getD p 0 ^^^ f p) = mixl l f (p + 1) := by
  apply List.ext_getElem?
  intro i
  rw [List.getElem?_set, length_mixl]
  by_cases h : i < l.length
  · rw [mixl_get _ _ _ _ h, mixl_get _ _ _ _ h]
    by_cases e : p = i
    · subst e
      rw [if_pos rfl, if_pos hp, if_pos (Nat.lt_succ_self p)]
    · rw [if_neg e]
      congr 1
      by_cases h2 : i < p
      · rw [if_pos h2, if_pos (by omega)]
      · rw [if_neg h2, if_neg (by omega)]
  · rw [if_neg (by omega), List.getElem?_eq_none (by rw [length_mixl]; omega), List.getElem?_eq_none (by rw [length_mixl]; omega)]
theorem mixl_getD (l : List UInt8) (f : Nat → UInt8) (p : Nat) (h : p < l.length) : (mixl l f p).getD p 0 = l.getD p 0 := by
  rw [List.getD_eq_getElem?_getD, mixl_get _ _ _ _ h, if_neg (Nat.lt_irrefl p)]
  rfl

/-- The key's bytes, filled up to 64, each turned by b. -/
def mkL (k : List UInt8) (b : UInt8) : List UInt8 := (List.range 64).map fun i => k.getD i 0 ^^^ b
theorem mkL_of (k : List UInt8) (b : UInt8) (N : Nat) (hk : k.length ≤ 64) (hN : 64 ≤ N) : (mixl (k ++ List.replicate (N - k.length) 0) (fun _ => b) 64).take 64 = mkL k b := by
  apply List.ext_getElem?
  intro i
  rw [List.getElem?_take]
  by_cases h : i < 64
  · rw [if_pos h, mixl_get _ _ _ _ (by simp; omega), if_pos h, mkL, List.getElem?_map, List.getElem?_range h, Option.map_some]
    congr 2
    by_cases h2 : i < k.length
    · simp [List.getD_eq_getElem?_getD, List.getElem?_append, h2]
    · rw [List.getD_eq_getElem?_getD, List.getD_eq_getElem?_getD, List.getElem?_append_right (by omega), List.getElem?_eq_none (by omega : k.length ≤ i), List.getElem?_replicate, if_pos (by omega)]
      rfl
  · rw [if_neg h, List.getElem?_eq_none (by simp [mkL]; omega)]
def maskB (k : ByteArray) (b : UInt8) (s : ByteArray) : ByteArray := bs (mkL (ls k) b ++ ls s)
theorem size_maskB (k : ByteArray) (b : UInt8) (s : ByteArray) : (maskB k b s).size = 64 + s.size := by
  rw [maskB, size_bs, List.length_append, length_ls, mkL, List.length_map, List.length_range]

set_option maxRecDepth 100000 in
theorem wpList_make_est {w : World} {ops : Array Oper} {rest : List Oper} {o : Oper} {a : Act} {Q : Exit → Act → World → Prop} (hgd : o.guard = none) (l c : Operand)
    (ho : o.op = Op.makeSlice 83 l c) (L N : Nat) (x y : Int) (hl : a.eval l = .int .i64 x) (hc : a.eval c = .int .i64 y) (hx : x = L) (hy : y = N) (hLN : L ≤ N) (hN : N ≤ 1000000)
    (h : ∀ w', ESt w.heap.size w (List.replicate N 0) w' → wpList Tryz.prog ops Q rest (a.put o.dst (.slice (some ⟨w.heap.size, 0, none⟩) L N)) w') : wpList Tryz.prog ops Q (o :: rest) a w := by
  refine wpList_plain hgd fun K hK => ?_
  obtain ⟨i8, hj0, hy0, hy1, hy2⟩ : ∃ i, Tryz.prog.info? 5 = some i ∧ i.zero = some (.int .u8 0) ∧ i.size = 1 ∧ i.bytes = 1 := ⟨_, rfl, rfl, rfl, rfl⟩
  have hrun := run_make (P := Tryz.prog) w 83 5 i8 (.int .u8 0) Tryz.underlying83 hj0 hy0 .i64 .i64 x y (by omega) (by omega) (by rw [hy2]; omega) (by omega)
  subst hx hy
  rw [hy1] at hrun
  simp only [Int.toNat_natCast, Nat.mul_one] at hrun
  have hz : madeCells (Value.int .u8 0).cells N = (vls (List.replicate N 0)).toArray := by
    apply Array.toList_inj.1
    exact zeros_made N
  rw [hz] at hrun
  have h' := h (w.alloc (.cells (vls (List.replicate N 0)).toArray 5 (0, 0))) ⟨Nat.le_refl _, (MapKept.heap_alloc w _).1, below_alloc (Below.refl _ _) _⟩
  unfold Oper.wp
  simp [execOp, ho, hl, hc, hrun, Result.andThen]
  exact hK _ _ h'
theorem wpList_copy_est2 {w : World} {ops : Array Oper} {rest : List Oper} {o : Oper} {a : Act} {Q : Exit → Act → World → Prop} (hgd : o.guard = none) (d s : Operand)
    (ho : o.op = .call { callee := .builtin .copy, args := #[d, s], argTypes := #[83, 9] })
    (g L n dCap : Nat) (str : ByteArray) (hd : a.eval d = .slice (some ⟨g, 0, none⟩) L dCap) (hs : a.eval s = .string str)
    (w0 : World) (hg : ESt g w0 (List.replicate n 0) w) (hle : str.size ≤ L) (hLn : L ≤ n)
    (h : ∀ w', ESt g w0 (ls str ++ List.replicate (n - (ls str).length) 0) w' → wpList Tryz.prog ops Q rest (a.put o.dst (goInt str.size)) w') : wpList Tryz.prog ops Q (o :: rest) a w := by
  refine wpList_plain hgd fun K hK => ?_
  have hrun := Lib.run_copy_row_string (P := Tryz.prog) w 83 9 o.type 5 g 0 L dCap str (vls (List.replicate n 0)).toArray 5 Tryz.underlying83 (by kernel_rfl) hg.ro hle (by simp [vls]; omega)
  have h' := h _ (est_copied hg str)
  generalize (w.setRow g _) = w' at hrun h'
  unfold Oper.wp
  simp [execOp, ho, resolve, invoke, builtin, hd, hs, hrun, Result.andThen]
  exact hK _ _ h'
set_option maxRecDepth 100000 in
theorem wpList_append_str {w : World} {ops : Array Oper} {rest : List Oper} {o : Oper} {a : Act} {Q : Exit → Act → World → Prop} (hgd : o.guard = none) (sl x : Operand)
    (ho : o.op = .call { callee := .builtin .append, args := #[sl, x], argTypes := #[83, 9] })
    (base : Nat) (v : Value) (n : Nat) (l : List UInt8) (hs : a.eval sl = v) (hown : w.ownsRow base 5 1 v n (vls l)) (s : ByteArray) (hx : a.eval x = .string s) (hb : n + s.size ≤ 1000000) (hbase : base ≤ w.heap.size)
    (h : ∀ v' w', w'.ownsRow base 5 1 v' (n + s.size) (vls (l ++ ls s)) → w.grownBy w' v.ownBlock → wpList Tryz.prog ops Q rest (a.put o.dst v') w') : wpList Tryz.prog ops Q (o :: rest) a w := by
  refine wpList_plain hgd fun K hK => ?_
  obtain ⟨i8, hj0, hy0, hy1, hy2⟩ : ∃ i, Tryz.prog.info? 5 = some i ∧ i.zero = some (.int .u8 0) ∧ i.size = 1 ∧ i.bytes = 1 := ⟨_, rfl, rfl, rfl, rfl⟩
  obtain ⟨v', w', hr, h2, h3, _⟩ := Lib.run_append_own_string (P := Tryz.prog) w base 83 9 o.type 5 i8 Tryz.underlying83 Tryz.underlying9 hj0 hy0 hy1 hy2 v n (vls l) hown s (by unfold maxLen; omega) (by omega) hbase
  have e : vls l ++ Lib.strCells s = vls (l ++ ls s) := by
    simp [vls, Lib.strCells, ls, valB]
  rw [e] at h2
  unfold Oper.wp execOp
  simp only [ho, resolve, invoke, builtin, Sem.run_bind, Sem.run_pure, Result.andThen_ok, List.map_toArray, List.map_cons, List.map_nil, hs, hx, hr]
  exact hK _ _ (h v' w' h2 h3)
theorem est_owns {g : Nat} {w0 w : World} {L : List UInt8} (h : ESt g w0 L w) (n N : Nat) (hn : n ≤ N) (hL : L.length = N) (hN : N ≤ 1000000) : w.ownsRow w0.heap.size 5 1 (.slice (some ⟨g, 0, none⟩) n N) n (vls (L.take n)) :=
  ⟨by simp [vls, hL, hn], .inr ⟨g, N, (vls L).toArray, rfl, h.ge, h.ro, hn, by unfold maxLen; omega, by simp [vls, hL], by simp [vls, List.map_take]⟩⟩
theorem ESt.byte {g : Nat} {w0 w : World} {L : List UInt8} (h : ESt g w0 L w) (i : Nat) (hi : i < L.length) : w.cell? ⟨g, i, none⟩ = some (.int .u8 ((L.getD i 0).toNat : Int)) := by
  rw [cell_of_row w g i _ _ _ h.ro]
  simp [vls, hi, valB]

set_option maxRecDepth 100000 in
set_option maxHeartbeats 1000000 in
theorem mask_any (k : ByteArray) (b : UInt8) (s : ByteArray) (w : World) (hk : k.size ≤ 64) (hs : s.size ≤ 100000) :
    Calls Tryz.prog 89 #[.string k, .int .u8 (b.toNat : Int), .string s] w fun e w' => e = .returned (.string (maskB k b s)) ∧ Below w.heap.size w w' := by
  have hl := length_ls k
  have sn : (0 : Int) ≤ s.size := by omega
  have sb : (s.size : Int) ≤ 100000 := by omega
  have HK := Lib.hid hk
  have HS := Lib.hid hs
  have HLK := Lib.hid hl
  have HMK := Lib.hid (mkL_of (ls k) b (64 + s.size) (by omega) (by omega))
  clear hk hs hl
  go_enter Tryz.func89, Tryz.ntmps89
  go_wp2_with (with_reducible refine wpList_make_est rfl (.const (.int .i64 64)) (.tmp 11) rfl 64 (64 + s.size) _ _ rfl rfl ?m1 ?m2 ?m3 ?m4 ?_)
  case m1 => rfl
  case m2 => omega
  case m3 => omega
  case m4 => have := HS.out; omega
  intro w1 st0
  have ST0 := Lib.hid st0
  have HN := Lib.hid (show 64 + s.size ≤ 100064 by have := HS.out; omega)
  have HN2 := Lib.hid (show 64 ≤ 64 + s.size by omega)
  have HNE := Lib.hid (show 64 + s.size = 64 + s.size from rfl)
  clear st0 HNE
  generalize hN : 64 + s.size = N at ST0 HN HN2 HMK ⊢
  generalize w.heap.size = g at ST0 ⊢
  have HNN := Lib.hid hN
  clear hN
  go_wp2_with (with_reducible refine wpList_copy_est2 rfl (.tmp 13) (.tmp 14) rfl g 64 N N k rfl rfl w ST0.out HK.out HN2.out ?_)
  intro w2 st2
  have hlen : (ls k ++ List.replicate (N - (ls k).length) (0 : UInt8)).length = N := by have := HK.out; have := HLK.out; have := HN2.out; simp; omega
  generalize ls k ++ List.replicate (N - (ls k).length) (0 : UInt8) = L at st2 hlen HMK
  have HLEN := Lib.hid hlen
  have st3 : ESt g w (mixl L (fun _ => b) 0) w2 := by rw [mixl_zero]; exact st2
  clear st2 hlen ST0
  go_wp2_with fail
  go_loopw [18] (fun i wr => ∃ j : Nat, j ≤ 64 ∧ i = .int .i64 j ∧ ESt g w (mixl L (fun _ => b) j) wr) (fun i _ => 64 - (intOf i).toNat)
  case atStart => exact ⟨0, by omega, rfl, st3⟩
  case round =>
    obtain ⟨j, hj, rfl, st4⟩ := hrel
    clear st3
    by_cases hjN : j < 64
    · have ji : (j : Int) < 64 := by omega
      have jn : (0 : Int) ≤ j := Int.natCast_nonneg j
      have hlt : j < L.length := by have := HLEN.out; have := HN2.out; omega
      have hlt2 : j < (mixl L (fun _ => b) j).length := by rw [length_mixl]; exact hlt
      have c1 := st4.byte j hlt2
      have f1 := frozen_of_row _ g j _ _ st4.ro
      rw [mixl_getD _ _ _ hlt] at c1
      have HST := Lib.hid (mixl_step L (fun _ => b) j hlt)
      generalize L.getD j 0 = x at c1 HST
      have hxor : bits .xor .u8 (x.toNat : Int) (b.toNat : Int) = (((x ^^^ b).toNat : Nat) : Int) := by rw [u8_xor_nat _ _ x.toNat_lt b.toNat_lt, UInt8.toNat_xor]
      have H4 := Lib.hid st4
      clear hlt hlt2 st4
      generalize x ^^^ b = y at HST hxor
      go_wp2_with fail
      have st5 : ESt g w (mixl L (fun _ => b) (j + 1)) (wr.setCell ⟨g, j, none⟩ (.int .u8 (y.toNat : Int))) := by
        have := H4.out.put j y
        rw [HST.out] at this
        exact this
      generalize World.setCell _ _ _ = wn at st5 ⊢
      go_wp2_with fail
      go_roundw
      case rel => exact ⟨j + 1, by omega, by go_num, st5⟩
      case measure => simp [intOf]; omega
    · have ji : ¬ ((j : Int) < 64) := by omega
      have hj64 : j = 64 := by omega
      rw [hj64] at st4
      have hown := est_owns st4 64 N HN2.out (by rw [length_mixl]; exact HLEN.out) (by have := HN.out; omega)
      rw [HMK.out] at hown
      have HOWN := Lib.hid hown
      have HB4 := Lib.hid st4.bel
      have HGE := Lib.hid st4.ge
      have HGL := Lib.hid (Array.getElem?_eq_some_iff.1 st4.ro).1
      have HBB := Lib.hid (show 64 + s.size ≤ 1000000 by have := HS.out; omega)
      clear hown st4 hj64 hjN
      go_wp2_with (with_reducible refine wpList_append_str rfl (.tmp 29) (.tmp 30) rfl w.heap.size (.slice (some ⟨g, 0, none⟩) 64 N) 64 (mkL (ls k) b) rfl HOWN.out s rfl HBB.out HB4.out.size ?_)
      intro v' w5 h1 h2
      have HB5 := Lib.hid (HB4.out.grown h2 HB4.out.size (fun m hm => (HOWN.out.lt m hm).1))
      obtain ⟨g', cap', rfl, _⟩ := h1.form (by omega)
      have hcv := conv_out (mkL (ls k) b ++ ls s) (64 + s.size) (by rw [← size_bs]; exact size_maskB k b s) h1
      clear h1 h2 HOWN HB4
      go_wp2_with fail
      go_ret
      exact ⟨rfl, HB5.out⟩
end Go.Proofs.YtfckjilhkdlpfaaGreatDoor

namespace Go.Proofs.YtfckjilhkdlpfaaGreatDoor
open Go.RowKit MS
/-- Which bits differ among the first j bytes. -/
def dfN (a b : List UInt8) : Nat → Nat
  | 0 => 0
  | j + 1 => dfN a b j ||| ((a.getD j 0).toNat ^^^ (b.getD j 0).toNat)
theorem xor_lt (x y : UInt8) : x.toNat ^^^ y.toNat < 256 := Nat.xor_lt_two_pow (n := 8) x.toNat_lt y.toNat_lt
theorem dfN_lt (a b : List UInt8) (j : Nat) : dfN a b j < 256 := by
  induction j with
  | zero => simp [dfN]
  | succ j ih => exact Nat.or_lt_two_pow (n := 8) ih (xor_lt _ _)
theorem dfN_zero (a b : List UInt8) (j : Nat) : dfN a b j = 0 ↔ ∀ i, i < j → a.getD i 0 = b.getD i 0 := by
  induction j with
  | zero => simp [dfN]
  | succ j ih =>
    rw [dfN, Nat.or_eq_zero_iff, ih]
    constructor
    · rintro ⟨h1, h2⟩ i hi
      rcases Nat.lt_or_ge i j with h | h
      · exact h1 i h
      · obtain rfl : i = j := by omega
        apply UInt8.toNat_inj.1
        have h3 : ((a.getD i 0).toNat ^^^ (b.getD i 0).toNat) ^^^ (b.getD i 0).toNat = (a.getD i 0).toNat := by rw [Nat.xor_assoc, Nat.xor_self, Nat.xor_zero]
        rw [h2, Nat.zero_xor] at h3
        exact h3.symm
    · intro h
      refine ⟨fun i hi => h i (by omega), ?_⟩
      rw [h j (Nat.lt_succ_self j)]
      exact Nat.xor_self _
theorem same_iff (a b : ByteArray) (h : a.size = b.size) : (((dfN (ls a) (ls b) a.size : Nat) : Int) == 0) = decide (a = b) := by
  have e : (dfN (ls a) (ls b) a.size = 0) ↔ a = b := by
    rw [dfN_zero]
    constructor
    · intro hh
      apply ls_inj
      apply List.ext_getElem (by rw [length_ls, length_ls, h])
      intro i h1 h2
      have := hh i (by rw [← length_ls]; exact h1)
      simpa [h1, h2] using this
    · rintro rfl i _
      rfl
  rw [Bool.eq_iff_iff, beq_iff_eq, decide_eq_true_eq]
  constructor
  · intro h
    exact e.1 (by omega)
  · intro h
    have := e.2 h
    omega

set_option maxHeartbeats 400000 in
theorem same_any (a b : ByteArray) (w : World) (ha : a.size ≤ 100000) :
    Calls Tryz.prog 37 #[.string a, .string b] w fun e w' => e = .returned (.bool (decide (a = b))) ∧ Below w.heap.size w w' := by
  by_cases hab : a.size = b.size
  · have HAB := Lib.hid hab
    have HSI := Lib.hid (same_iff a b hab)
    have t1 : ((a.size : Int) != b.size) = false := by simp; omega
    have sb : (a.size : Int) ≤ 100000 := by omega
    clear hab ha
    go_enter Tryz.func37, Tryz.ntmps37
    go_wp2_with fail
    go_loopw [5, 14] (fun v i wr => ∃ j : Nat, j ≤ a.size ∧ i = .int .i64 j ∧ v = .int .u8 (dfN (ls a) (ls b) j : Nat) ∧ Below w.heap.size w wr) (fun _ i _ => a.size - (intOf i).toNat)
    case atStart => exact ⟨0, by omega, rfl, rfl, Below.refl _ _⟩
    case round =>
      obtain ⟨j, hj, rfl, rfl, hb⟩ := hrel
      have HB := Lib.hid hb
      clear hb
      by_cases hja : j < a.size
      · have hjb : j < b.size := by have := HAB.out; omega
        have ji : (j : Int) < a.size := Int.ofNat_lt.2 hja
        have jb : (j : Int) < b.size := Int.ofNat_lt.2 hjb
        have jn : (0 : Int) ≤ j := Int.natCast_nonneg j
        have HN := Lib.hid (show dfN (ls a) (ls b) (j + 1) = dfN (ls a) (ls b) j ||| ((a[j]'hja).toNat ^^^ (b[j]'hjb).toNat) by rw [ls_get a j hja, ls_get b j hjb]; rfl)
        have hl := dfN_lt (ls a) (ls b) j
        have hxl := xor_lt (a[j]'hja) (b[j]'hjb)
        have hxor : bits .xor .u8 ((a[j]'hja).toNat : Int) ((b[j]'hjb).toNat : Int) = (((a[j]'hja).toNat ^^^ (b[j]'hjb).toNat : Nat) : Int) := u8_xor_nat _ _ (a[j]'hja).toNat_lt (b[j]'hjb).toNat_lt
        generalize dfN (ls a) (ls b) j = d at HN hl
        have hor := u8_or_nat d ((a[j]'hja).toNat ^^^ (b[j]'hjb).toNat) hl hxl
        clear hl hxl
        go_wp2_with fail
        go_quiet (fail)
        go_wp2_with fail
        go_roundw
        case rel => exact ⟨j + 1, by omega, by go_num, by rw [HN.out], below_drewN HB.out _⟩
        case measure => simp [intOf]; omega
      · have ji : ¬ ((j : Int) < a.size) := by omega
        have hjj : j = a.size := by omega
        rw [hjj]
        have hz := HSI.out
        clear hjj hja
        go_wp2_with fail
        go_ret
        exact ⟨rfl, HB.out⟩
  · have t1 : ((a.size : Int) != b.size) = true := by simp; omega
    have HD := Lib.hid (show decide (a = b) = false by
      apply decide_eq_false
      rintro rfl
      exact hab rfl)
    clear hab
    go_enter Tryz.func37, Tryz.ntmps37
    go_wp2_with fail
    go_ret
    exact ⟨by rw [HD.out]; rfl, Below.refl _ _⟩
end Go.Proofs.YtfckjilhkdlpfaaGreatDoor

namespace Go.Proofs.YtfckjilhkdlpfaaGreatDoor
open Go.RowKit MS
def kB (k : ByteArray) : ByteArray := if k.size > 64 then sumB k else k
theorem size_kB (k : ByteArray) : (kB k).size ≤ 64 := by
  unfold kB
  split
  · rw [size_sumB]; decide
  · omega
/-- The keyed digest. -/
def macB (k s : ByteArray) : ByteArray := sumB (maskB (kB k) 92 (sumB (maskB (kB k) 54 s)))
theorem size_macB (k s : ByteArray) : (macB k s).size = 32 := size_sumB _

set_option maxHeartbeats 400000 in
theorem mac_any (k s : ByteArray) (w : World) (hk : k.size ≤ 10000) (hs : s.size ≤ 10000) (G : Glob w) :
    Calls Tryz.prog 61 #[.string k, .string s] w fun e w' => e = .returned (.string (macB k s)) ∧ Below w.heap.size w w' := by
  have HG := Lib.hid G
  have M1 := Lib.hid (fun w => mask_any (kB k) 54 s w (size_kB k) (by omega))
  have S1 := Lib.hid (fun w G => sum_any (maskB (kB k) 54 s) w (by rw [size_maskB]; omega) G)
  have M2 := Lib.hid (fun w => mask_any (kB k) 92 (sumB (maskB (kB k) 54 s)) w (size_kB k) (by rw [size_sumB]; decide))
  have S2 := Lib.hid (fun w G => sum_any (maskB (kB k) 92 (sumB (maskB (kB k) 54 s))) w (by rw [size_maskB, size_sumB]; decide) G)
  have HM := Lib.hid (show macB k s = sumB (maskB (kB k) 92 (sumB (maskB (kB k) 54 s))) from rfl)
  clear G hs
  by_cases h : k.size > 64
  · have SK := Lib.hid (fun w G => sum_any k w (by omega) G)
    rw [show sumB k = kB k by rw [kB, if_pos h]] at SK
    have t1 : decide ((k.size : Int) > 64) = true := by simp; omega
    generalize kB k = K at *
    clear h hk
    go_enter Tryz.func61, Tryz.ntmps61
    go_wp2_with fail
    refine (SK.out _ HG.out).mono ?_
    rintro e w1 ⟨rfl, hb1⟩
    have B1 := Lib.hid hb1
    clear hb1
    go_wp2_with fail
    refine (M1.out _).mono ?_
    rintro e w2 ⟨rfl, hb2⟩
    have B2 := Lib.hid (B1.out.trans (hb2.mono B1.out.size))
    clear hb2
    go_wp2_with fail
    refine (S1.out _ (HG.out.on B2.out)).mono ?_
    rintro e w3 ⟨rfl, hb3⟩
    have B3 := Lib.hid (B2.out.trans (hb3.mono B2.out.size))
    clear hb3
    go_wp2_with fail
    refine (M2.out _).mono ?_
    rintro e w4 ⟨rfl, hb4⟩
    have B4 := Lib.hid (B3.out.trans (hb4.mono B3.out.size))
    clear hb4
    go_wp2_with fail
    refine (S2.out _ (HG.out.on B4.out)).mono ?_
    rintro e w5 ⟨rfl, hb5⟩
    go_wp2_with fail
    go_ret
    exact ⟨by rw [HM.out]; rfl, B4.out.trans (hb5.mono B4.out.size)⟩
  · have hK : kB k = k := by rw [kB, if_neg h]
    rw [hK] at M1 S1 M2 S2 HM
    have t1 : decide ((k.size : Int) > 64) = false := by simp; omega
    clear h hk hK
    go_enter Tryz.func61, Tryz.ntmps61
    go_wp2_with fail
    refine (M1.out _).mono ?_
    rintro e w2 ⟨rfl, hb2⟩
    have B2 := Lib.hid hb2
    clear hb2
    go_wp2_with fail
    refine (S1.out _ (HG.out.on B2.out)).mono ?_
    rintro e w3 ⟨rfl, hb3⟩
    have B3 := Lib.hid (B2.out.trans (hb3.mono B2.out.size))
    clear hb3
    go_wp2_with fail
    refine (M2.out _).mono ?_
    rintro e w4 ⟨rfl, hb4⟩
    have B4 := Lib.hid (B3.out.trans (hb4.mono B3.out.size))
    clear hb4
    go_wp2_with fail
    refine (S2.out _ (HG.out.on B4.out)).mono ?_
    rintro e w5 ⟨rfl, hb5⟩
    go_wp2_with fail
    go_ret
    exact ⟨by rw [HM.out]; rfl, B4.out.trans (hb5.mono B4.out.size)⟩

end Go.Proofs.YtfckjilhkdlpfaaGreatDoor

namespace MS
open Go Go.RowKit
theorem grown_of_below {w w' : World} (h : Below w.heap.size w w') : w.grownBy w' none := ⟨h.os, h.tape, h.output, h.size, fun k hk _ => h.block k hk⟩
theorem ownsRow_on {w w' : World} {base : Nat} {e : TypeId} {size : Nat} {v : Value} {n : Nat} {xs : List Value} (h : w.ownsRow base e size v n xs) (hb : Below w.heap.size w w') : w'.ownsRow base e size v n xs :=
  h.kept (grown_of_below hb) (by cases hv : v.ownBlock with | none => exact .inl rfl | some k => right; intro h; cases h)
def sliceLen : Value → Nat
  | .slice _ n _ => n
  | _ => 0
theorem own_cap {w : World} {base : Nat} {e : TypeId} {size : Nat} {g n cap : Nat} {xs : List Value} (h : w.ownsRow base e size (.slice (some ⟨g, 0, none⟩) n cap) n xs) : n ≤ cap ∧ cap ≤ maxLen ∧ base ≤ g ∧ g < w.heap.size := by
  obtain ⟨_, h | ⟨g', cap', cur, e1, hb, hg, hn, hm, _⟩⟩ := h
  · cases h.1
  · simp only [Value.slice.injEq, Option.some.injEq, Addr.mk.injEq] at e1
    obtain ⟨⟨rfl, _, _⟩, _, rfl⟩ := e1
    exact ⟨hn, hm, hb, (Array.getElem?_eq_some_iff.1 hg).1⟩
end MS
namespace Go.Proofs.YtfckjilhkdlpfaaGreatDoor
open Go.RowKit MS
theorem conv_pre {B2 cap g N : Nat} {w : World} (l : List UInt8) (n : Nat) (hl : l.length = N) (hn : n ≤ N) (hown : w.ownsRow B2 5 1 (.slice (some ⟨g, 0, none⟩) N cap) N (vls l)) :
    (convert 83 9 (.slice (some ⟨g, 0, none⟩) n cap)).run Tryz.prog w = .ok (.string (bs (l.take n))) w := by
  refine run_bytes_to_string w 83 9 5 Tryz.underlying83 Tryz.underlying5 Tryz.underlying9 g 0 n cap (l.take n) (by simp; omega) (fun j h => ?_)
  have h' : j < n := by simp at h; omega
  have := hown.cellAt j (by omega)
  rw [Nat.zero_add, this]
  simp [vls, valB, show j < l.length by omega, List.getElem_take]
end Go.Proofs.YtfckjilhkdlpfaaGreatDoor

namespace Go.Proofs.YtfckjilhkdlpfaaGreatDoor
open Go.RowKit MS
/-- The n-th digest drawn. -/
def drT (k info : ByteArray) : Nat → ByteArray
  | 0 => ⟨#[]⟩
  | n + 1 => macB k (drT k info n ++ info ++ bs [UInt8.ofNat (n + 1)])
theorem size_drT (k info : ByteArray) (n : Nat) : (drT k info n).size ≤ 32 := by
  cases n with
  | zero => exact Nat.zero_le _
  | succ n => rw [drT, size_macB]; exact Nat.le_refl _
/-- What n digests make. -/
def drO (k info : ByteArray) : Nat → List UInt8
  | 0 => []
  | n + 1 => drO k info n ++ ls (drT k info (n + 1))
theorem length_drO (k info : ByteArray) (n : Nat) : (drO k info n).length = 32 * n := by
  induction n with
  | zero => rfl
  | succ n ih => rw [drO, List.length_append, ih, length_ls, drT, size_macB]; omega
theorem drO_take (k info : ByteArray) (n j : Nat) (h : j ≤ n) (m : Nat) (hm : m ≤ 32 * j) : (drO k info n).take m = (drO k info j).take m := by
  induction n with
  | zero =>
    have e : j = 0 := by omega
    rw [e]
  | succ n ih =>
    by_cases hj : j = n + 1
    · rw [hj]
    · rw [drO, List.take_append_of_le_length (by rw [length_drO]; omega), ih (by omega)]
/-- n bytes drawn out of a secret. -/
def drawB (sec salt info : ByteArray) (n : Nat) : ByteArray := bs ((drO (macB salt sec) info ((n + 31) / 32)).take n)
theorem size_drawB (sec salt info : ByteArray) (n : Nat) : (drawB sec salt info n).size = n := by
  rw [drawB, size_bs, List.length_take, length_drO]; omega

set_option maxHeartbeats 400000 in
theorem draw_no (sec salt info : ByteArray) (n : Int) (w : World) (hn : n < 0 ∨ 8160 < n) :
    Calls Tryz.prog 64 #[.string sec, .string salt, .string info, .int .i64 n] w fun e w' => e = .returned (.tuple #[.string ⟨#[]⟩, .int .i64 1]) ∧ Below w.heap.size w w' := by
  by_cases h : n < 0
  · go_enter Tryz.func64, Tryz.ntmps64
    go_wp2_with fail
    go_ret2
    exact ⟨rfl, Below.refl _ _⟩
  · have h2 : n > 8160 := by omega
    go_enter Tryz.func64, Tryz.ntmps64
    go_wp2_with fail
    go_ret2
    exact ⟨rfl, Below.refl _ _⟩

set_option maxRecDepth 100000 in
set_option maxHeartbeats 1000000 in
theorem draw_yes (sec salt info : ByteArray) (n : Nat) (w : World) (hn : n ≤ 8160) (h1 : sec.size ≤ 1000) (h2 : salt.size ≤ 1000) (h3 : info.size ≤ 1000) (G : Glob w) :
    Calls Tryz.prog 64 #[.string sec, .string salt, .string info, .int .i64 n] w fun e w' => e = .returned (.tuple #[.string (drawB sec salt info n), .int .i64 0]) ∧ Below w.heap.size w w' := by
  obtain ⟨i8, hj0, hy0, hy1, hy2⟩ : ∃ i, Tryz.prog.info? 5 = some i ∧ i.zero = some (.int .u8 0) ∧ i.size = 1 ∧ i.bytes = 1 := ⟨_, rfl, rfl, rfl, rfl⟩
  have HG := Lib.hid G
  have HN := Lib.hid hn
  have n0 : (0 : Int) ≤ n := by omega
  have n1 : (n : Int) ≤ 8160 := by omega
  have M1 := Lib.hid (fun w G => mac_any salt sec w (by omega) (by omega) G)
  have HX := Lib.hid (size_macB salt sec)
  have HD := Lib.hid (show drawB sec salt info n = bs ((drO (macB salt sec) info ((n + 31) / 32)).take n) from rfl)
  have HI := Lib.hid h3
  have HB1 := Lib.hid (show i8.bytes * (n + 32) ≤ 281474976710656 by rw [hy2]; omega)
  have HB2 := Lib.hid (show n + 32 ≤ maxLen by unfold maxLen; omega)
  have HB3 := Lib.hid (show (n : Int) + 32 = ((n + 32 : Nat) : Int) by omega)
  generalize macB salt sec = X at M1 HX HD
  generalize drawB sec salt info n = R at HD
  clear hn h1 h2 h3 G
  go_enter Tryz.func64, Tryz.ntmps64
  go_wp2_with fail
  refine (M1.out _ HG.out).mono ?_
  rintro e w1 ⟨rfl, hb1⟩
  have B1 := Lib.hid hb1
  have S1 := Lib.hid hb1.size
  clear hb1
  go_wp2_with (with_reducible refine wpList_make_own _ rfl (.const (.int .i64 0)) (.tmp 24) 83 rfl w.heap.size 5 i8 (.int .u8 0) 1 Tryz.underlying83 hj0 hy0 hy1 .i64 .i64 ((n : Int) + 32) (n + 32) rfl rfl HB3.out HB1.out HB2.out S1.out ?_)
  intro w2 g1 g2
  have B2 := Lib.hid (B1.out.grown g2 S1.out (by intro k e; cases e))
  have O2 := Lib.hid g1
  clear g1 g2
  go_wp2_with fail
  go_loopw [11, 12, 13] (fun v l c wr => ∃ j : Nat, 32 * j < n + 32 ∧ c = .int .u8 ((j + 1) % 256 : Nat) ∧ l = .string (drT X info j) ∧ (∃ g cap, v = .slice (some ⟨g, 0, none⟩) (32 * j) cap) ∧ wr.ownsRow w.heap.size 5 1 v (32 * j) (vls (drO X info j)) ∧ Below w.heap.size w wr) (fun v _ _ _ => n - sliceLen v)
  case atStart => exact ⟨0, by omega, rfl, rfl, ⟨_, _, rfl⟩, O2.out, B2.out⟩
  case round =>
    obtain ⟨j, hj, rfl, rfl, ⟨g, cap, rfl⟩, hown, hb⟩ := hrel
    have HO := Lib.hid hown
    have HB := Lib.hid hb
    have HJ := Lib.hid hj
    clear hown hb hj
    by_cases hlt : 32 * j < n
    · have j1 : 32 * (j : Int) < n := by omega
      have j0 : (0 : Int) ≤ j := by omega
      obtain ⟨c, hc⟩ : ∃ c, c = j + 1 := ⟨_, rfl⟩
      have c255 : c ≤ 255 := by have := HN.out; omega
      have c0 : (0 : Int) ≤ c := by omega
      have c1 : (c : Int) ≤ 255 := by omega
      have hcm : (j + 1) % 256 = c := by rw [← hc, Nat.mod_eq_of_lt (by omega)]
      have HC := Lib.hid hc
      rw [hcm]
      have kcv := run_one_int (P := Tryz.prog) 83 9 5 Tryz.underlying83 Tryz.underlying5 Tryz.underlying9 (c : Int) c0 c1
      have M3 := Lib.hid (fun w G => mac_any X (drT X info j ++ info ++ bs [UInt8.ofNat c]) w (by rw [HX.out]; decide) (by
        rw [ByteArray.size_append, ByteArray.size_append, size_bs]
        have := size_drT X info j
        have := HI.out
        simp only [List.length_cons, List.length_nil]
        omega) G)
      have HT := Lib.hid (show macB X (drT X info j ++ info ++ bs [UInt8.ofNat c]) = drT X info (j + 1) by rw [HC.out]; rfl)
      have st := size_drT X info j
      have HTT := Lib.hid st
      clear hc hcm c255
      generalize hTJ : drT X info j = TJ at M3 HT st HTT ⊢
      clear hTJ
      have s1 : (TJ.size : Int) + info.size ≤ 2000 := by have := HI.out; omega
      have s2 : (TJ.size : Int) + info.size + ((bs [UInt8.ofNat c]).size : Int) ≤ 2001 := by rw [size_bs]; have := HI.out; simp only [List.length_cons, List.length_nil]; omega
      have HBA := Lib.hid (below_alloc HB.out (.cells #[.int .u8 (c : Int)] 5 (0, 0)))
      have HOA := Lib.hid (HO.out.alloc (.cells #[.int .u8 (c : Int)] 5 (0, 0)))
      clear st
      go_wp2_with fail
      refine (M3.out _ (HG.out.on HBA.out)).mono ?_
      rintro e w3 ⟨rfl, hb3⟩
      rw [HT.out]
      have HB3 := Lib.hid (HBA.out.trans (hb3.mono HBA.out.size))
      have HO3 := Lib.hid (ownsRow_on HOA.out hb3)
      have HZ := Lib.hid (show (drT X info (j + 1)).size = 32 by rw [drT, size_macB])
      have HS := Lib.hid (show drO X info (j + 1) = drO X info j ++ ls (drT X info (j + 1)) from rfl)
      generalize hDD : drT X info (j + 1) = D at HZ HS ⊢
      have HDD := Lib.hid hDD
      clear hDD
      have HBB := Lib.hid (show 32 * j + D.size ≤ 1000000 by rw [HZ.out]; have := HN.out; omega)
      clear hb3 s1 s2 kcv HBA HOA M3 HT HTT
      go_wp2_with (with_reducible refine wpList_append_str rfl (.tmp 41) (.tmp 42) rfl w.heap.size (.slice (some ⟨g, 0, none⟩) (32 * j) cap) (32 * j) (drO X info j) rfl HO3.out D rfl HBB.out HB3.out.size ?_)
      intro v' w4 h1 h2
      have HB4 := Lib.hid (HB3.out.grown h2 HB3.out.size (fun m hm => (HO3.out.lt m hm).1))
      rw [← HS.out, HZ.out] at h1
      have HO4 := Lib.hid h1
      clear h1 h2
      go_wp2_with fail
      go_roundw
      case rel =>
        obtain ⟨g', cap', hv, _⟩ := HO4.out.form (by omega)
        have := HN.out
        refine ⟨j + 1, by omega, ?_, by rw [HDD.out], ⟨g', cap', by rw [hv]; rfl⟩, HO4.out, HB4.out⟩
        have := HC.out
        go_num
      case measure =>
        obtain ⟨g', cap', rfl, _⟩ := HO4.out.form (by omega)
        simp only [sliceLen]
        omega
    · have j1 : ¬ (32 * (j : Int) < n) := by omega
      have hq : (drO X info ((n + 31) / 32)).take n = (drO X info j).take n := (drO_take _ _ _ j (by have := HJ.out; omega) n (by omega))
      have hR := HD.out
      obtain ⟨hcap, hmx, _⟩ := own_cap HO.out
      have hc1 : (n : Int) ≤ (cap : Int) := by omega
      have hcv := conv_pre (drO X info j) n (length_drO _ _ _) (by omega) HO.out
      rw [← hq, ← hR] at hcv
      have hc2 : (cap : Int) ≤ 9223372036854775807 := by unfold maxLen at hmx; omega
      clear hq hR hlt hcap hmx
      go_wp2_with fail
      go_ret2
      exact ⟨rfl, HB.out⟩
end Go.Proofs.YtfckjilhkdlpfaaGreatDoor

namespace MS
open Go Go.RowKit
/-- The value v has its n elements, the cells xs, in a row of the call's own; none of the row's cells is frozen. -/
def ownsF (w : World) (base : Nat) (e : TypeId) (v : Value) (n : Nat) (xs : List Value) : Prop :=
  xs.length = n ∧ ∃ (g cap : Nat) (cur : Array Value) (fr : Nat × Nat), v = .slice (some ⟨g, 0, none⟩) n cap ∧ base ≤ g ∧ w.heap[g]? = some (.cells cur e fr) ∧ n ≤ cap ∧ cap ≤ maxLen ∧ cur.size = cap ∧ (fr = (0, 0) ∨ cap ≤ fr.1) ∧ cur.toList.take n = xs

theorem ownsF.lt {w : World} {base : Nat} {e : TypeId} {v : Value} {n : Nat} {xs : List Value} (h : ownsF w base e v n xs) : ∀ k, v.ownBlock = some k → base ≤ k ∧ k < w.heap.size := by
  obtain ⟨_, g, cap, cur, fr, rfl, hb, hg, _⟩ := h
  intro k hk
  simp [Value.ownBlock] at hk
  subst hk
  exact ⟨hb, (Array.getElem?_eq_some_iff.1 hg).1⟩
theorem ownsF.alloc {w : World} {base : Nat} {e : TypeId} {v : Value} {n : Nat} {xs : List Value} (h : ownsF w base e v n xs) (o : Obj) : ownsF (w.alloc o) base e v n xs := by
  obtain ⟨h1, g, cap, cur, fr, rfl, hb, hg, h2⟩ := h
  exact ⟨h1, g, cap, cur, fr, rfl, hb, ((MapKept.heap_alloc w o).2 _ (Array.getElem?_eq_some_iff.1 hg).1).trans hg, h2⟩
theorem ownsF.on {w w' : World} {base : Nat} {e : TypeId} {v : Value} {n : Nat} {xs : List Value} (h : ownsF w base e v n xs) (hb' : Below w.heap.size w w') : ownsF w' base e v n xs := by
  obtain ⟨h1, g, cap, cur, fr, rfl, hb, hg, h2⟩ := h
  exact ⟨h1, g, cap, cur, fr, rfl, hb, (hb'.block _ (Array.getElem?_eq_some_iff.1 hg).1).trans hg, h2⟩
theorem ownsF.drew {w : World} {base : Nat} {e : TypeId} {v : Value} {n : Nat} {xs : List Value} (h : ownsF w base e v n xs) : ownsF w.drew base e v n xs := h
theorem ownsF.form {w : World} {base : Nat} {e : TypeId} {v : Value} {n : Nat} {xs : List Value} (h : ownsF w base e v n xs) : ∃ g cap, v = .slice (some ⟨g, 0, none⟩) n cap ∧ n ≤ cap ∧ cap ≤ maxLen ∧ g < w.heap.size := by
  obtain ⟨_, g, cap, cur, fr, rfl, hb, hg, h2, h3, _⟩ := h
  exact ⟨g, cap, rfl, h2, h3, (Array.getElem?_eq_some_iff.1 hg).1⟩
theorem ownsF.cell {w : World} {base : Nat} {e : TypeId} {n g cap : Nat} {xs : List Value} (h : ownsF w base e (.slice (some ⟨g, 0, none⟩) n cap) n xs) (j : Nat) (hj : j < n) : w.cell? ⟨g, j, none⟩ = xs[j]? := by
  obtain ⟨h1, g', cap', cur, fr, e1, hb, hg, h2, h3, h4, h5, h6⟩ := h
  simp only [Value.slice.injEq, Option.some.injEq, Addr.mk.injEq] at e1
  obtain ⟨⟨rfl, _, _⟩, _, rfl⟩ := e1
  rw [← h6, List.getElem?_take_of_lt hj]
  simp [World.cell?, hg]

theorem frozen_out {w : World} {g cap : Nat} {cur : Array Value} {e : TypeId} {fr : Nat × Nat} (hg : w.heap[g]? = some (.cells cur e fr)) (h : fr = (0, 0) ∨ cap ≤ fr.1) (j : Nat) (hj : j < cap) : w.frozen? ⟨g, j, none⟩ = false := by
  obtain ⟨lo, hi⟩ := fr
  simp only [World.frozen?, hg]
  rcases h with h | h
  · cases h; simp
  · simp only at h
    simp only [Bool.and_eq_false_iff, decide_eq_false_iff_not]
    left; omega

theorem setCell_cells {w : World} {g i : Nat} {cs : Array Value} {e : TypeId} {fr : Nat × Nat} (v : Value) (hg : w.heap[g]? = some (.cells cs e fr)) : (w.setCell ⟨g, i, none⟩ v).heap[g]? = some (.cells (cs.setIfInBounds i v) e fr) := by
  simp [World.setCell, Array.getElem?_modify, hg]
theorem setCell_other' {w : World} {g i k : Nat} (v : Value) (hk : k ≠ g) : (w.setCell ⟨g, i, none⟩ v).heap[k]? = w.heap[k]? := by
  simp [World.setCell, Array.getElem?_modify, Ne.symm hk]

theorem take_set (l : List Value) (n : Nat) (x : Value) (h : n < l.length) : (l.set n x).take (n + 1) = l.take n ++ [x] := by
  apply List.ext_getElem?
  intro j
  rw [List.getElem?_take, List.getElem?_set, List.getElem?_append]
  have hl : (l.take n).length = n := by simp; omega
  rw [hl]
  by_cases h1 : j < n
  · rw [if_pos (by omega), if_neg (by omega), if_pos h1, List.getElem?_take, if_pos h1]
  · rw [if_neg h1]
    by_cases h2 : j = n
    · subst h2; simp [h]
    · rw [if_neg (by omega), List.getElem?_eq_none (by simp; omega)]

section
variable {P : Program}
theorem run_append_f (w : World) (base : Nat) (t ty e : TypeId) (i : TypeInfo) (z : Value) (ht : P.underlying t = some (.slice e)) (hi : P.info? e = some i) (hz : i.zero = some z) (hsize : i.size = 1) (hby : i.bytes = 1) (hzs : z.cells.size = 1)
    (v : Value) (n : Nat) (xs : List Value) (hown : ownsF w base e v n xs) (ad : Addr) (c : Nat) (x : Value) (hnew : w.cell? ad = some x) (h1 : x.oneCell' = true) (hn : n + 1 ≤ 140737488355328) (hbase : base ≤ w.heap.size) :
    ∃ v' w', (Builtin.append_ #[t, t] ty #[v, .slice (some ad) 1 c]).run P w = .ok v' w' ∧ ownsF w' base e v' (n + 1) (xs ++ [x]) ∧ w.grownBy w' v.ownBlock := by
  have hown0 := hown
  obtain ⟨hl, g, cap, cur, fr, rfl, hbg, hg, hnc, hcm, hcs, hfr, htake⟩ := hown
  have hnl : ([x] : List Value).length = 1 * i.size := by rw [hsize]; rfl
  have hnews : ∀ j u, [x][j]? = some u → w.cell? (ad.add j) = some u := by
    intro j u hu
    cases j with
    | zero =>
      simp at hu; subst hu
      have : ad.add 0 = ad := by unfold Addr.add; split <;> simp_all
      rw [this]; exact hnew
    | succ j => simp at hu
  by_cases hroom : n + 1 ≤ cap
  · have hcell : (w.cell? ⟨g, n, none⟩).isSome = true := by simp [World.cell?, hg]; omega
    have hr := run_append_room_cells (P := P) w t ty e i ht hi g 0 n cap ad 1 c [x] hnl hnews (by simpa using h1) hroom
      (fun j hj => by
        have : j = 0 := by simpa using hj
        subst this
        rw [hsize, Nat.zero_add, Nat.mul_one, Nat.add_zero]; exact hcell)
      (fun j hj => by
        have : j = 0 := by simpa using hj
        subst this
        rw [hsize, Nat.zero_add, Nat.mul_one, Nat.add_zero]; exact frozen_out hg hfr n (by omega))
    rw [hsize, Nat.zero_add, Nat.mul_one] at hr
    have hw : w.setCells g n [x] = w.setCell ⟨g, n, none⟩ x := rfl
    rw [hw] at hr
    refine ⟨_, _, hr, ⟨by simp [hl], g, cap, cur.setIfInBounds n x, fr, rfl, hbg, setCell_cells x hg, hroom, hcm, by simp [hcs], hfr, ?_⟩, ⟨rfl, rfl, rfl, by simp [World.setCell], fun k _ hk => setCell_other' x (fun e => hk (by simp [Value.ownBlock, e]))⟩⟩
    rw [Array.toList_setIfInBounds, take_set _ _ _ (by simp; omega), htake]
  · have holds : ∀ j u, xs[j]? = some u → w.cell? ((⟨g, 0, none⟩ : Addr).add j) = some u := fun j u hu => by
      have hj : j < n := by rw [← hl]; exact (List.getElem?_eq_some_iff.1 hu).1
      rw [Addr.add_lit, Nat.zero_add, hown0.cell j hj, hu]
    have hr := run_append_grow (P := P) w t ty e i z ht hi hz ⟨g, 0, none⟩ n cap xs (by rw [hsize, hl, Nat.mul_one]) holds ad 1 c [x] hnl hnews (by omega) (by omega) (by
      have := growslice_fits (need := n + 1) (old := cap) (bytes := i.bytes) (by omega) (by rw [hby]; omega)
      exact this)
    have hge := grownCap_ge w (n + 1) cap e
    have hcm' : grownCap w (n + 1) cap e ≤ maxLen := grownCap_le_maxLen w (n + 1) cap e (by unfold maxLen; omega)
    refine ⟨_, _, hr, ⟨by simp [hl], w.heap.size, _, _, (0, 0), rfl, hbase, heap_alloc_new w.drew _, hge, hcm', ?_, .inl rfl, ?_⟩, ⟨rfl, rfl, rfl, by simp, fun k hk _ => (MapKept.heap_alloc w.drew _).2 k hk⟩⟩
    · simp only [Array.size_append, List.size_toArray, size_zeroCells, hzs, hl, List.length_cons, List.length_nil]
      omega
    · have h7 : (xs ++ [x]).length = n + 1 := by simp [hl]
      simp only [Array.toList_append]
      rw [← h7]
      exact List.take_left
theorem wpList_append_f (w : World) {ops : Array Oper} {rest : List Oper} {o : Oper} {a : Act} {Q : Exit → Act → World → Prop} (hgd : o.guard = none) (s x : Operand) (t : TypeId)
    (ho : o.op = .call { callee := .builtin .append, args := #[s, x], argTypes := #[t, t] })
    (base : Nat) (e : TypeId) (i : TypeInfo) (z : Value) (ht : P.underlying t = some (.slice e)) (hi : P.info? e = some i) (hz : i.zero = some z) (hsize : i.size = 1) (hby : i.bytes = 1) (hzs : z.cells.size = 1)
    (v : Value) (n : Nat) (xs : List Value) (hs : a.eval s = v) (hown : ownsF w base e v n xs)
    (ad : Addr) (c : Nat) (u : Value) (hx : a.eval x = .slice (some ad) 1 c) (hnew : w.cell? ad = some u) (h1 : u.oneCell' = true) (hn : n + 1 ≤ 140737488355328) (hbase : base ≤ w.heap.size)
    (h : ∀ v' w', ownsF w' base e v' (n + 1) (xs ++ [u]) → w.grownBy w' v.ownBlock → wpList P ops Q rest (a.put o.dst v') w') : wpList P ops Q (o :: rest) a w := by
  refine wpList_plain hgd fun K hK => ?_
  obtain ⟨v', w', hr, h2, h3⟩ := run_append_f (P := P) w base t o.type e i z ht hi hz hsize hby hzs v n xs hown ad c u hnew h1 hn hbase
  unfold Oper.wp
  simp [execOp, ho, resolve, invoke, builtin, hs, hx, hr, Result.andThen]
  exact hK _ _ (h v' w' h2 h3)

/-- A string turned into bytes owns such a row. -/
theorem ownsF_bytes (w : World) (base : Nat) (e : TypeId) (s : ByteArray) (hb : base ≤ w.heap.size) (hs : s.size ≤ maxLen) :
    ownsF (Lib.bytesWorld w e s) base e (.slice (some ⟨w.heap.size, 0, none⟩) s.size (grownCap w s.size 0 e)) s.size (s.data.toList.map fun b => Value.int .u8 b.toNat) := by
  have hge := grownCap_ge w s.size 0 e
  have hd : s.data.size = s.size := rfl
  have hsz : (Lib.bytesCells w e s).size = grownCap w s.size 0 e := by
    simp only [Lib.bytesCells, Array.size_append, Array.size_map, Array.size_replicate, hd]
    omega
  refine ⟨by simp, w.heap.size, _, _, _, rfl, hb, Lib.bytesWorld_at_new w e s, hge, grownCap_le_maxLen w _ _ _ hs, hsz, .inr (by rw [hsz]; exact Nat.le_refl _), ?_⟩
  simp only [Lib.bytesCells, Array.toList_append, Array.toList_map]
  have h7 : (s.data.toList.map fun b => Value.int .u8 b.toNat).length = s.size := by simp
  rw [← h7]
  exact List.take_left
theorem below_bytes (w : World) (e : TypeId) (s : ByteArray) : Below w.heap.size w (Lib.bytesWorld w e s) :=
  ⟨rfl, rfl, rfl, by rw [Lib.bytesWorld_size]; omega, fun j hj => Lib.bytesWorld_at_old w e s j hj⟩
theorem wpList_conv_f {w : World} {ops : Array Oper} {rest : List Oper} {o : Oper} {a : Act} {Q : Exit → Act → World → Prop} (hgd : o.guard = none) (x : Operand) (src dst e : TypeId) (ho : o.op = .convert src dst x)
    (s : ByteArray) (hx : a.eval x = .string s) {u : TypeDesc} (hs : P.underlying src = some u) (hd : P.underlying dst = some (.slice e)) (he : P.underlying e = some (.int .u8))
    (h : wpList P ops Q rest (a.put o.dst (.slice (some ⟨w.heap.size, 0, none⟩) s.size (grownCap w s.size 0 e))) (Lib.bytesWorld w e s)) : wpList P ops Q (o :: rest) a w := by
  refine wpList_plain hgd fun K hK => ?_
  unfold Oper.wp
  simp [execOp, ho, hx, Lib.run_convert_string_bytes w src dst e s hs hd he]
  exact hK _ _ h
theorem wpList_conv_own {w : World} {ops : Array Oper} {rest : List Oper} {o : Oper} {a : Act} {Q : Exit → Act → World → Prop} (hgd : o.guard = none) (x : Operand) (src dst e : TypeId) (ho : o.op = .convert src dst x)
    (s : ByteArray) (hx : a.eval x = .string s) {u : TypeDesc} (hs : P.underlying src = some u) (hd : P.underlying dst = some (.slice e)) (he : P.underlying e = some (.int .u8)) (base n : Nat) (hn : s.size = n) (hb : base ≤ w.heap.size) (hm : n ≤ maxLen)
    (h : ∀ g cap w', ownsF w' base e (.slice (some ⟨g, 0, none⟩) n cap) n (s.data.toList.map fun b => Value.int .u8 b.toNat) → Below w.heap.size w w' → wpList P ops Q rest (a.put o.dst (.slice (some ⟨g, 0, none⟩) n cap)) w') : wpList P ops Q (o :: rest) a w := by
  subst hn
  exact wpList_conv_f hgd x src dst e ho s hx hs hd he (h _ _ _ (ownsF_bytes w base e s hb hm) (below_bytes w e s))
theorem ownsF.put {w : World} {base : Nat} {e : TypeId} {n g cap : Nat} {xs : List Value} (h : ownsF w base e (.slice (some ⟨g, 0, none⟩) n cap) n xs) (i : Nat) (x : Value) : ownsF (w.setCell ⟨g, i, none⟩ x) base e (.slice (some ⟨g, 0, none⟩) n cap) n (xs.set i x) := by
  obtain ⟨h1, g', cap', cur, fr, e1, hb, hg, h2, h3, h4, h5, h6⟩ := h
  simp only [Value.slice.injEq, Option.some.injEq, Addr.mk.injEq] at e1
  obtain ⟨⟨rfl, _, _⟩, _, rfl⟩ := e1
  refine ⟨by simp [h1], g, cap, cur.setIfInBounds i x, fr, rfl, hb, setCell_cells x hg, h2, h3, by simp [h4], h5, ?_⟩
  rw [Array.toList_setIfInBounds, List.take_set, h6]
theorem ownsF.free {w : World} {base : Nat} {e : TypeId} {n g cap : Nat} {xs : List Value} (h : ownsF w base e (.slice (some ⟨g, 0, none⟩) n cap) n xs) (j : Nat) (hj : j < n) : w.frozen? ⟨g, j, none⟩ = false := by
  obtain ⟨h1, g', cap', cur, fr, e1, hb, hg, h2, h3, h4, h5, h6⟩ := h
  simp only [Value.slice.injEq, Option.some.injEq, Addr.mk.injEq] at e1
  obtain ⟨⟨rfl, _, _⟩, _, rfl⟩ := e1
  exact frozen_out hg h5 j (by omega)
theorem ownsF.ge {w : World} {base : Nat} {e : TypeId} {n g cap : Nat} {xs : List Value} (h : ownsF w base e (.slice (some ⟨g, 0, none⟩) n cap) n xs) : base ≤ g := by
  obtain ⟨h1, g', cap', cur, fr, e1, hb, _⟩ := h
  simp only [Value.slice.injEq, Option.some.injEq, Addr.mk.injEq] at e1
  obtain ⟨⟨rfl, _, _⟩, _⟩ := e1
  exact hb
/-- A string out of a part of such a row. -/
theorem ownsF_conv (w : World) (base : Nat) (src dst e : TypeId) (hs : P.underlying src = some (.slice e)) (he : P.underlying e = some (.int .u8)) (hd : P.underlying dst = some .string)
    {g n cap : Nat} {l : List UInt8} (h : ownsF w base e (.slice (some ⟨g, 0, none⟩) n cap) n (l.map fun b => Value.int .u8 (b.toNat : Int))) (a m c2 : Nat) (ha : a + m ≤ n) :
    (convert src dst (.slice (some ⟨g, a, none⟩) m c2)).run P w = .ok (.string (bs ((l.drop a).take m))) w := by
  have hl : l.length = n := by simpa using h.1
  refine run_bytes_to_string w src dst e hs he hd g a m c2 _ (by simp; omega) (fun j hj => ?_)
  have hj' : j < m := by simp at hj; omega
  rw [h.cell (a + j) (by omega)]
  simp [show a + j < l.length by omega]
end
end MS
