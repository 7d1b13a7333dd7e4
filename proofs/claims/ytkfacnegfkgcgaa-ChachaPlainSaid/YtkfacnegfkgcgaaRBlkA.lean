/-
  mailsackref05.Block: plain lemmas for its walk.
-/
import Derived.Test.YtkfacnegfkgcgaaRWord
import Derived.Test.YtkfacnegfkgcgaaBlkB
import Derived.Deep.AppendLies
namespace Go.Proofs.Ytkfacnegfkgcgaa
open Go.RowKit MS

def wvs (l : List W32) : List Value := l.map (fun x => .int .u32 (wv x))

theorem one_cell (w : World) (x : Value) (T : Nat) : ∀ j u, [x][j]? = some u → (w.alloc (.cells #[x] T (0, 0))).cell? ((⟨w.heap.size, 0, none⟩ : Addr).add j) = some u := by
  intro j u hu
  obtain ⟨rfl, rfl⟩ : j = 0 ∧ u = x := by
    cases j with
    | zero => exact ⟨rfl, by simpa using hu.symm⟩
    | succ m => simp at hu
  exact cell_of_row _ _ _ _ _ _ (MapKept.heap_alloc w _).1

theorem one_one (x : Value) (h : x.oneCell' = true) : ∀ u ∈ [x], u.oneCell' = true := by
  intro u hu
  rw [List.mem_singleton.1 hu]
  exact h
theorem le_alloc {B : Nat} {w : World} (h : B ≤ w.heap.size) (o : Obj) : B ≤ (w.alloc o).heap.size := by
  rw [World.size_alloc]
  exact Nat.le_succ_of_le h
theorem below_app {w0 wr w' : World} (hb : Below w0.heap.size w0 wr) (o : Obj) (v : Value) (n : Nat) (e : TypeId) (xs : List Value) (ho : wr.ownsRow w0.heap.size e 1 v n xs) (hg : (wr.alloc o).grownBy w' v.ownBlock) : Below w0.heap.size w0 w' :=
  (below_alloc hb o).grown hg (by rw [World.size_alloc]; exact Nat.le_succ_of_le hb.size) (fun m hm => (ho.lt m hm).1)

def fillG (s : Array W32) (o : Nat) (f : Nat → W32) : Nat → Array W32
  | 0 => s
  | i + 1 => (fillG s o f i).setIfInBounds (o + i) (f i)
theorem fillW_G (s : Array W32) (o : Nat) (t : ByteArray) (i : Nat) : fillW s o t i = fillG s o (leW t) i := by
  induction i with
  | zero => rfl
  | succ i ih => rw [fillW, fillG, ih]
theorem fillG_words (f g h : Nat → W32) (c z : W32) :
    ((((List.range 4).map f ++ (List.range 8).map g) ++ [c]) ++ (List.range 3).map h) = (fillG ((fillG (fillG (Array.replicate 16 z) 0 f 4) 4 g 8).setIfInBounds 12 c) 13 h 3).toList := by
  simp only [fillG, Array.toList_setIfInBounds, Array.toList_replicate]
  rfl
theorem iw_words (k n : ByteArray) (c : W32) :
    ((((List.range 4).map (leW cst) ++ (List.range 8).map (leW k)) ++ [c]) ++ (List.range 3).map (leW n)) = (iw k n c).toList := by
  unfold iw
  rw [fillW_G, fillW_G, fillW_G]
  exact fillG_words _ _ _ _ _

/-- A row that is copied word by word. -/
def cp (S : Array W32) : Nat → Array W32
  | 0 => Array.replicate 16 0
  | j + 1 => (cp S j).setIfInBounds j (S.getD j 0)
theorem size_cp (S : Array W32) (j : Nat) : (cp S j).size = 16 := by
  induction j with
  | zero => simp [cp]
  | succ j ih => simp [cp, ih]
theorem cp_get (S : Array W32) (j i : Nat) (hi : i < 16) : (cp S j)[i]? = some (if i < j then S.getD i 0 else 0) := by
  induction j with
  | zero => simp [cp, hi]
  | succ j ih =>
    rw [cp, Array.getElem?_setIfInBounds, size_cp]
    by_cases h : j = i
    · subst h
      rw [if_pos rfl, if_pos hi, if_pos (Nat.lt_succ_self j)]
    · rw [if_neg h, ih]
      congr 1
      by_cases h2 : i < j
      · rw [if_pos h2, if_pos (by omega)]
      · rw [if_neg h2, if_neg (by omega)]
theorem cp_all (S : Array W32) (hS : S.size = 16) : cp S 16 = S := by
  apply Array.ext_getElem?
  intro i
  by_cases hi : i < 16
  · rw [cp_get S 16 i hi, if_pos hi]
    simp [hS, hi]
  · rw [Array.getElem?_eq_none (by rw [size_cp]; omega), Array.getElem?_eq_none (by rw [hS]; omega)]

/-- What is known of the world behind the first words: they lie at gv; the row that is turned lies at g. -/
structure RSt (B gv g : Nat) (w0 : World) (S t : Array W32) (cur : Array Value) (w : World) : Prop where
  ne : gv ≠ g
  gev : B ≤ gv
  geg : B ≤ g
  rv : w.heap[gv]? = some (.cells cur 22 (0, 0))
  hc : ∀ j, j < 16 → cur[j]? = some (.int .u32 (wv (S.getD j 0)))
  rg : w.heap[g]? = some (.cells (rowW t) 22 (0, 0))
  bel : Below B w0 w
theorem RSt.step {B gv g : Nat} {w0 w w' : World} {S t t' : Array W32} {cur : Array Value} (h : RSt B gv g w0 S t cur w) (hg : w.grownBy w' (some g)) (hr : w'.heap[g]? = some (.cells (rowW t') 22 (0, 0))) : RSt B gv g w0 S t' cur w' := by
  have l0 : gv < w.heap.size := (Array.getElem?_eq_some_iff.1 h.rv).1
  have lb : B ≤ w.heap.size := Nat.le_of_lt (Nat.lt_of_le_of_lt h.gev l0)
  refine ⟨h.ne, h.gev, h.geg, (hg.block gv l0 (by simp [h.ne])).trans h.rv, h.hc, hr, h.bel.grown hg lb (by intro k e; cases e; exact h.geg)⟩
theorem RSt.set {B gv g : Nat} {w0 w : World} {S t : Array W32} {cur : Array Value} (h : RSt B gv g w0 S t cur w) (p : Nat) (x : W32) : RSt B gv g w0 S (t.setIfInBounds p x) cur (w.setCell ⟨g, p, none⟩ (.int .u32 (wv x))) := by
  refine h.step ⟨rfl, rfl, rfl, by simp, fun k _ hk => heap_setCell_other w ⟨g, p, none⟩ k _ (fun e => hk (by simp [e]))⟩ ?_
  rw [heap_setCell_same w g p (rowW t) _ _ h.rg, rowW_set]
theorem RSt.word {B gv g : Nat} {w0 w : World} {S t : Array W32} {cur : Array Value} (h : RSt B gv g w0 S t cur w) (j : Nat) (hj : j < 16) : w.cell? ⟨gv, j, none⟩ = some (.int .u32 (wv (S.getD j 0))) := by
  rw [cell_of_row w gv j _ _ _ h.rv]
  exact h.hc j hj
theorem RSt.turned {B gv g : Nat} {w0 w : World} {S t : Array W32} {cur : Array Value} (h : RSt B gv g w0 S t cur w) (ht : t.size = 16) (j : Nat) (hj : j < 16) : w.cell? ⟨g, j, none⟩ = some (.int .u32 (wv (t.getD j 0))) := by
  rw [cell_of_row w g j _ _ _ h.rg]
  simp [rowW, ht, hj]
theorem RSt.carry {B B2 gv g : Nat} {w0 w w' : World} {S t : Array W32} {cur : Array Value} (h : RSt B gv g w0 S t cur w) (hB : B ≤ B2) (hv : gv < B2) (hg : g < B2) (hb : Below B2 w w') : RSt B gv g w0 S t cur w' :=
  ⟨h.ne, h.gev, h.geg, (hb.block gv hv).trans h.rv, h.hc, (hb.block g hg).trans h.rg, h.bel.trans (hb.mono hB)⟩

/-- The row just made. -/
theorem rst_start {B gv cap : Nat} {w0 w w' : World} {S : Array W32} (hS : S.size = 16) (hb : Below B w0 w) (hown : w.ownsRow B 22 1 (.slice (some ⟨gv, 0, none⟩) 16 cap) 16 (wvs S.toList))
    (hg : w.grownBy w' none) (hm : w'.ownsRow B 22 1 (.slice (some ⟨w.heap.size, 0, none⟩) 16 16) 16 (madeCells (Value.int .u32 0).cells (16 * 1)).toList) :
    ∃ cur, RSt B gv w.heap.size w0 S (cp S 0) cur w' := by
  rcases hown.2 with ⟨h', _⟩ | ⟨g', cap', cur, h', hb1, hg1, _, _, hsz, htake⟩
  · simp at h'
  · simp only [Value.slice.injEq, Option.some.injEq, Addr.mk.injEq, and_true, true_and] at h'
    obtain ⟨rfl, rfl⟩ := h'
    have l0 : gv < w.heap.size := (Array.getElem?_eq_some_iff.1 hg1).1
    rcases hm.2 with ⟨h2, _⟩ | ⟨g2, cap2, cur2, h2, hb2, hg2, _, _, hsz2, htake2⟩
    · simp at h2
    · simp only [Value.slice.injEq, Option.some.injEq, Addr.mk.injEq, and_true, true_and] at h2
      obtain ⟨rfl, rfl⟩ := h2
      have hcur2 : cur2 = rowW (cp S 0) := by
        apply Array.toList_inj.1
        rw [List.take_of_length_le (by rw [Array.length_toList, hsz2]; exact Nat.le_refl _)] at htake2
        rw [htake2, show (Value.int .u32 0).cells = #[.int .u32 0] from rfl, toList_madeCells_one, rowW, cp, Array.toList_map, Array.toList_replicate, List.map_replicate]
        rfl
      refine ⟨cur, by omega, hb1, hb2, (hg.block gv l0 (by simp)).trans hg1, ?_, by rw [← hcur2]; exact hg2, hb.grown hg (by omega) (by intro k e; cases e)⟩
      intro j hj
      have : (cur.toList.take (16 * 1))[j]? = (wvs S.toList)[j]? := by rw [htake]
      rw [List.getElem?_take, if_pos (by omega), Array.getElem?_toList] at this
      rw [this]
      simp [wvs, hS, hj]

/-- The block's bytes, as a list. -/
def bl (z : Nat → W32) : Nat → List UInt8
  | 0 => []
  | i + 1 => bl z i ++ [obB (z i) 0] ++ [obB (z i) 1] ++ [obB (z i) 2] ++ [obB (z i) 3]
theorem length_bl (z : Nat → W32) (i : Nat) : (bl z i).length = 4 * i := by
  induction i with
  | zero => rfl
  | succ i ih => simp [bl, ih]; omega
def oG (F : Nat → Nat → UInt8) : Nat → Array UInt8
  | 0 => Array.replicate 64 0
  | i + 1 => ((((oG F i).setIfInBounds (4 * i) (F i 0)).setIfInBounds (4 * i + 1) (F i 1)).setIfInBounds (4 * i + 2) (F i 2)).setIfInBounds (4 * i + 3) (F i 3)
def bG (F : Nat → Nat → UInt8) : Nat → List UInt8
  | 0 => []
  | i + 1 => bG F i ++ [F i 0] ++ [F i 1] ++ [F i 2] ++ [F i 3]
theorem oB_G (z : Nat → W32) (i : Nat) : oB z i = oG (fun i j => obB (z i) j) i := by
  induction i with
  | zero => rfl
  | succ i ih => rw [oB, oG, ih]
theorem bl_G (z : Nat → W32) (i : Nat) : bl z i = bG (fun i j => obB (z i) j) i := by
  induction i with
  | zero => rfl
  | succ i ih => rw [bl, bG, ih]
theorem length_bG (F : Nat → Nat → UInt8) (i : Nat) : (bG F i).length = 4 * i := by
  induction i with
  | zero => rfl
  | succ i ih => simp [bG, ih]; omega
theorem set_app (l r : List UInt8) (x v : UInt8) (p : Nat) (hp : l.length = p) : (l ++ x :: r).set p v = (l ++ [v]) ++ r := by
  subst hp
  simp
theorem oG_list (F : Nat → Nat → UInt8) (i m : Nat) (h : 4 * i + m = 64) : (oG F i).toList = bG F i ++ List.replicate m 0 := by
  induction i generalizing m with
  | zero =>
    obtain rfl : m = 64 := by omega
    simp [oG, bG]
  | succ i ih =>
    have h4 := ih (m + 4) (by omega)
    have hl := length_bG F i
    rw [oG, bG, Array.toList_setIfInBounds, Array.toList_setIfInBounds, Array.toList_setIfInBounds, Array.toList_setIfInBounds, h4, List.replicate_succ, List.replicate_succ, List.replicate_succ, List.replicate_succ,
      set_app _ _ _ _ _ hl, set_app _ _ _ _ _ (by simp [hl]), set_app _ _ _ _ _ (by simp [hl]), set_app _ _ _ _ _ (by simp [hl])]
theorem oG_bG (F : Nat → Nat → UInt8) : (oG F 16).toList = bG F 16 := by
  have := oG_list F 16 0 rfl
  simpa using this
theorem bl_oB (z : Nat → W32) : (oB z 16).toList = bl z 16 := by rw [oB_G, bl_G, oG_bG]
def vls (l : List UInt8) : List Value := l.map valB
theorem vls_app (l : List UInt8) (b : UInt8) : vls (l ++ [b]) = vls l ++ [valB b] := by simp [vls]

theorem bs_bl (S : Array W32) : bs (bl (zz (drs 10 S) S) 16) = blkB S := by
  rw [← bl_oB]
  exact bs_ls (blkB S)
def blv (z : Nat → W32) : Nat → List Value
  | 0 => []
  | i + 1 => blv z i ++ [ob (z i) 0] ++ [ob (z i) 1] ++ [ob (z i) 2] ++ [ob (z i) 3]
theorem blv_bl (z : Nat → W32) (i : Nat) : blv z i = vls (bl z i) := by
  induction i with
  | zero => rfl
  | succ i ih => rw [blv, bl, vls_app, vls_app, vls_app, vls_app, ih, ob_val, ob_val, ob_val, ob_val]
theorem conv_out {B2 cap g : Nat} {w : World} (l : List UInt8) (n : Nat) (hl : l.length = n) (hown : w.ownsRow B2 5 1 (.slice (some ⟨g, 0, none⟩) n cap) n (vls l)) :
    (convert 37 9 (.slice (some ⟨g, 0, none⟩) n cap)).run Try.prog w = .ok (.string (bs l)) w := by
  refine run_bytes_to_string w 37 9 5 Try.underlying37 Try.underlying5 Try.underlying9 g 0 n cap l hl (fun j h => ?_)
  have := hown.cellAt j (by omega)
  rw [Nat.zero_add, this]
  simp [vls, valB, h]
end Go.Proofs.Ytkfacnegfkgcgaa
