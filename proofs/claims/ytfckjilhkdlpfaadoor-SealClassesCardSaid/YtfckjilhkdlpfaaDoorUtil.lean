/-
  Lemmas for walks of whatever seat: rows of words, bytes, appends, regions with a tail.
-/
import Derived.Test.YtfckjilhkdlpfaaDoorProg
import Derived.Test.YtfckjilhkdlpfaaDoorWord
import Derived.Test.YtfckjilhkdlpfaaDoorQMid
import Derived.BigRegion
import Derived.BigQuiet
import Derived.Deep.QuietTactic
import Derived.Deep.AppendLies
import Derived.Laws.IdiomStrings
import Derived.Laws.ResultCell
namespace Go.Proofs.YtfckjilhkdlpfaaDoor
open Go.RowKit MS

def rowW (s : Array W32) : Array Value := s.map (fun x => .int .u32 (wv x))
theorem size_rowW (s : Array W32) : (rowW s).size = s.size := by simp [rowW]
theorem rowW_set (s : Array W32) (i : Nat) (x : W32) : (rowW s).setIfInBounds i (.int .u32 (wv x)) = rowW (s.setIfInBounds i x) := by
  simp [rowW, Array.map_setIfInBounds]
theorem one_rowW (s : Array W32) : (rowW s).all (·.oneCell') = true := by simp [rowW, Value.oneCell']
theorem rowW_get (s : Array W32) (i : Nat) (h : i < s.size) : (rowW s)[i]? = some (.int .u32 (wv (s.getD i 0))) := by simp [rowW, h]
theorem wpAny_take_at {P : Program} {ops : Array Oper} {md : Region.Mode} {Q : Exit → Act → World → Prop} {i d : Nat} {oi : Oper} {v : Value} {fuel : Nat} {listed : Array Bool} {a : Act} {w : World} (hi : ops[i]? = some oi)
    (hs : Region.noSelect ops = true) (hf : Region.free md ops listed i = true) (hr : (Region.ready md ops listed).contains i = true)
    (hQ : ∀ c a w, Q (.panic c) (a.put (some d) v) w → Q (.panic c) a w) (hd : oi.dst = some d) (hy : Yields P ops oi v a)
    (h : wpAny P md ops Q fuel (listed.setIfInBounds i true) (a.put (some d) v) w) : wpAny P md ops Q (fuel + 1) listed a w :=
  wpAny_take hi hs hf hr (by rw [hd]; exact hQ) hy (by rw [hd]; exact h)
theorem wpAny_tail {P : Program} {md : Region.Mode} {Q : Exit → Act → World → Prop} {l : List Oper} {listed : Array Bool} {a : Act} {w : World} (n g : Nat) (hB : Region.seqB md l.toArray g n listed = true) (hg : (l.drop n).length = g)
    (h : wpList P l.toArray Q (l.drop n) a w) : wpAny P md l.toArray Q g listed a w := by
  subst hg
  exact wpAny_of_seq (l.drop n) n listed a w (fun j => by simp [List.getElem?_drop]) hB h
theorem grown_set {w0 w : World} {b : Nat} (h : w0.grownBy w (some b)) (k i : Nat) (v : Value) : w0.grownBy ((w.drewN k).setCell ⟨b, i, none⟩ v) (some b) := by
  refine ⟨h.os, h.tape, h.output, by simpa [World.setCell] using h.size, fun j hj hne => ?_⟩
  rw [heap_setCell_other _ _ _ _ (fun e => hne (by rw [e]))]
  exact h.block j hj hne
theorem row_set {w : World} {b T : Nat} {cs : Array Value} (h : w.heap[b]? = some (.cells cs T (0, 0))) (k i : Nat) (v : Value) : ((w.drewN k).setCell ⟨b, i, none⟩ v).heap[b]? = some (.cells (cs.setIfInBounds i v) T (0, 0)) :=
  heap_setCell_same (w.drewN k) b i cs T v h
theorem below_setRow {B g : Nat} {w0 w : World} (h : Below B w0 w) (hg : B ≤ g) (cs : Array Value) : Below B w0 (w.setRow g cs) :=
  ⟨h.os, h.tape, h.output, by simpa using h.size, fun k hk => by rw [setRow_other _ _ _ _ (by omega)]; exact h.block k hk⟩
theorem below_drewN {B : Nat} {w0 w : World} (h : Below B w0 w) (k : Nat) : Below B w0 (w.drewN k) := ⟨h.os, h.tape, h.output, h.size, h.block⟩

def valB (b : UInt8) : Value := .int .u8 (b.toNat : Int)
def vls (l : List UInt8) : List Value := l.map valB
theorem vls_app (l : List UInt8) (b : UInt8) : vls (l ++ [b]) = vls l ++ [valB b] := by simp [vls]
def wvs (l : List W32) : List Value := l.map (fun x => .int .u32 (wv x))
theorem one_cell (w : World) (x : Value) (T : Nat) : ∀ j u, [x][j]? = some u → (w.alloc (.cells #[x] T (0, 0))).cell? ((⟨w.heap.size, 0, none⟩ : Addr).add j) = some u := by
  intro j u hu
  obtain ⟨rfl, rfl⟩ : j = 0 ∧ u = x := by
    cases j with
    | zero => exact ⟨rfl, by simpa using hu.symm⟩
    | succ m => simp at hu
  exact cell_of_row _ _ _ _ _ _ (MapKept.heap_alloc w _).1
theorem one_one (x : Value) (h : x.oneCell' = true) : ∀ u ∈ [x], u.oneCell' = true := by
  intro u hu
  rw [List.mem_singleton.1 hu]
  exact h
theorem le_alloc {B : Nat} {w : World} (h : B ≤ w.heap.size) (o : Obj) : B ≤ (w.alloc o).heap.size := by
  rw [World.size_alloc]
  exact Nat.le_succ_of_le h
theorem below_app {w0 wr w' : World} (hb : Below w0.heap.size w0 wr) (o : Obj) (v : Value) (n : Nat) (e : TypeId) (xs : List Value) (ho : wr.ownsRow w0.heap.size e 1 v n xs) (hg : (wr.alloc o).grownBy w' v.ownBlock) : Below w0.heap.size w0 w' :=
  (below_alloc hb o).grown hg (by rw [World.size_alloc]; exact Nat.le_succ_of_le hb.size) (fun m hm => (ho.lt m hm).1)
theorem conv_out {B2 cap g : Nat} {w : World} (l : List UInt8) (n : Nat) (hl : l.length = n) (hown : w.ownsRow B2 5 1 (.slice (some ⟨g, 0, none⟩) n cap) n (vls l)) :
    (convert 62 9 (.slice (some ⟨g, 0, none⟩) n cap)).run Tryd.prog w = .ok (.string (bs l)) w := by
  refine run_bytes_to_string w 62 9 5 Tryd.underlying62 Tryd.underlying5 Tryd.underlying9 g 0 n cap l hl (fun j h => ?_)
  have := hown.cellAt j (by omega)
  rw [Nat.zero_add, this]
  simp [vls, valB, h]
theorem conv_nil (w : World) : (convert 62 9 (.slice none 0 0)).run Tryd.prog w = .ok (.string ⟨#[]⟩) w := by
  rw [run_convert_bytes_string w 62 9 5 _ _ _ Tryd.underlying62 Tryd.underlying5 Tryd.underlying9]
  simp [Conv.bytesToString, Sem.run_pure]
  rfl
theorem ls_get (s : ByteArray) (j : Nat) (h : j < s.size) : s[j]'h = (ls s).getD j 0 := by
  have hl : j < s.data.toList.length := by simpa using h
  unfold ls
  rw [List.getD_eq_getElem?_getD, List.getElem?_eq_getElem hl]
  rfl
theorem ext4 (s : ByteArray) (j : Nat) (h : 4 * j + 4 ≤ s.size) : s.extract (4 * j) (4 * j + 4) = ByteArray.mk #[(ls s).getD (4 * j) 0, (ls s).getD (4 * j + 1) 0, (ls s).getD (4 * j + 2) 0, (ls s).getD (4 * j + 3) 0] := by
  apply ls_inj
  rw [ls_extract]
  have hl : (ls s).length = s.size := length_ls s
  generalize ls s = l at hl
  show (l.drop (4 * j)).take (4 * j + 4 - 4 * j) = [_, _, _, _]
  rw [show 4 * j + 4 - 4 * j = 4 by omega]
  apply List.ext_getElem
  · simp; omega
  · intro i h1 h2
    simp at h1
    have h4 : i < 4 := by omega
    have hi : 4 * j + i < l.length := by omega
    match i, h4 with
    | 0, _ => simp [show 4 * j < l.length by omega]
    | 1, _ => simp [show 4 * j + 1 < l.length by omega]
    | 2, _ => simp [show 4 * j + 2 < l.length by omega]
    | 3, _ => simp [show 4 * j + 3 < l.length by omega]
theorem or_mul (a b k : Nat) (h : a < 2 ^ k) : a ||| b * 2 ^ k = b * 2 ^ k + a := by
  rw [Nat.or_comm, ← Nat.shiftLeft_eq, Nat.shiftLeft_add_eq_or_of_lt h]
theorem run_index_row (T n : Nat) (hu : Tryd.prog.underlying T = some (.array n 76)) (t : Array W32) (hz : t.size = n) (j : Nat) (hj : j < n) (w : World) : (Instr.index T (.agg (rowW t)) (.int .i64 j)).run Tryd.prog w = .ok (.int .u32 (wv (t.getD j 0))) w := by
  have hn : (0 : Int) ≤ j ∧ (j : Int) < n := by omega
  have hi : (Tryd.prog.info? 76).map (·.size) = some 1 := by kernel_rfl
  have hjt : j < t.size := by omega
  cases hq : Tryd.prog.info? 76 with
  | none => simp [hq] at hi
  | some i =>
    have hs : i.size = 1 := by simpa [hq] using hi
    simp [Instr.index, run_underlying hu, asIntOf, go_sem, sizeOf, typeInfo, hq, hs, hn]
    have hx : (rowW t)[j]? = some (.int .u32 (wv (t.getD j 0))) := by simp [rowW, hjt]
    rw [if_pos hj, hx]
    simp [hjt]

theorem be_ar1 (a b : Nat) : a * 16777216 + b * 65536 = (a * 256 + b) * 65536 := by omega
theorem be_ar2 (a b c : Nat) : a * 16777216 + b * 65536 + c * 256 = (a * 65536 + b * 256 + c) * 256 := by omega
theorem be_ar3 (a b c d : Nat) : 16777216 * a + 65536 * b + 256 * c + d = a * 16777216 + (b * 65536 + (c * 256 + d)) := by omega
theorem be_ar4 (a b c d : Nat) : 16777216 * a + 65536 * b + 256 * c + d = a * 16777216 + b * 65536 + c * 256 + d := by omega
/-- A word, the highest byte first. -/
def beN (a b c d : Nat) : W32 := BitVec.ofNat 32 (16777216 * a + 65536 * b + 256 * c + d)
theorem be_or4 (a b c d : Nat) (ha : a < 256) (hb : b < 256) (hc : c < 256) (hd : d < 256) :
    bits .or .u32 (bits .or .u32 (bits .or .u32 ((a : Int) % 4294967296 * 16777216 % 4294967296) ((b : Int) % 4294967296 * 65536 % 4294967296)) ((c : Int) % 4294967296 * 256 % 4294967296)) ((d : Int) % 4294967296)
      = wv (beN a b c d) := by
  have e0 : (a : Int) % 4294967296 * 16777216 % 4294967296 = ((a * 16777216 : Nat) : Int) := by omega
  have e1 : (b : Int) % 4294967296 * 65536 % 4294967296 = ((b * 65536 : Nat) : Int) := by omega
  have e2 : (c : Int) % 4294967296 * 256 % 4294967296 = ((c * 256 : Nat) : Int) := by omega
  have e3 : (d : Int) % 4294967296 = ((d : Nat) : Int) := by omega
  have bound : ∀ x y m : Nat, x < 256 → y < m → x * m + y < 256 * m := fun x y m hx hy =>
    Nat.lt_of_lt_of_le (show x * m + y < (x + 1) * m by rw [Nat.succ_mul]; exact Nat.add_lt_add_left hy _) (Nat.mul_le_mul_right _ hx)
  have l1 : c * 256 + d < 65536 := bound c d 256 hc hd
  have l2 : b * 65536 + (c * 256 + d) < 16777216 := bound b _ 65536 hb l1
  have l3 : a * 16777216 + (b * 65536 + (c * 256 + d)) < 4294967296 := bound a _ 16777216 ha l2
  have m1 : b * 65536 < 16777216 := Nat.lt_of_le_of_lt (Nat.le_add_right _ _) l2
  have m2 : c * 256 < 65536 := Nat.lt_of_le_of_lt (Nat.le_add_right _ _) l1
  have k0 : a * 16777216 < 4294967296 := Nat.lt_of_le_of_lt (Nat.le_add_right _ _) l3
  have k1 : b * 65536 < 4294967296 := Nat.lt_trans m1 (by decide)
  have k2 : c * 256 < 4294967296 := Nat.lt_trans m2 (by decide)
  have k3 : d < 4294967296 := Nat.lt_trans hd (by decide)
  have q1 : a * 16777216 ||| b * 65536 = a * 16777216 + b * 65536 := by rw [Nat.or_comm]; exact or_mul (b * 65536) a 24 m1
  have q2 : (a * 16777216 + b * 65536) ||| c * 256 = a * 16777216 + b * 65536 + c * 256 := by
    have := or_mul (c * 256) (a * 256 + b) 16 m2
    rw [Nat.or_comm, be_ar1]
    exact this
  have q3 : (a * 16777216 + b * 65536 + c * 256) ||| d = a * 16777216 + b * 65536 + c * 256 + d := by
    have := or_mul d (a * 65536 + b * 256 + c) 8 hd
    rw [Nat.or_comm, be_ar2]
    exact this
  have z1 : a * 16777216 + b * 65536 < 4294967296 := Nat.lt_of_le_of_lt (Nat.add_le_add_left (Nat.le_add_right _ _) _) l3
  have z2 : a * 16777216 + b * 65536 + c * 256 < 4294967296 := by
    rw [Nat.add_assoc]
    exact Nat.lt_of_le_of_lt (Nat.add_le_add_left (Nat.add_le_add_left (Nat.le_add_right _ _) _) _) l3
  rw [e0, e1, e2, e3, u32_or_nat _ _ k0 k1, q1, u32_or_nat _ _ z1 k2, q2, u32_or_nat _ _ z2 k3, q3]
  unfold wv beN
  rw [BitVec.toNat_ofNat, Nat.mod_eq_of_lt (by rw [be_ar3]; exact l3)]
  rw [be_ar4]
end Go.Proofs.YtfckjilhkdlpfaaDoor
