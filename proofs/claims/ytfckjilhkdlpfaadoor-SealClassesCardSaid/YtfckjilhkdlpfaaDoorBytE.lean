/-
  Blocks of bytes of the call's own, known whole, of whatever type; bytes appended.
-/
import Derived.Test.YtfckjilhkdlpfaaDoorUtil
import Derived.Test.YtfckjilhkdlpfaaDoorOwn2
import Derived.Lib.BufferWrite
namespace Go.Proofs.YtfckjilhkdlpfaaDoor
open Go.RowKit MS

structure Bt (T : TypeId) (g : Nat) (w0 : World) (L : List UInt8) (w : World) : Prop where
  ge : w0.heap.size ≤ g
  ro : w.heap[g]? = some (.cells (vls L).toArray T (0, 0))
  bel : Below w0.heap.size w0 w
theorem Bt.put {T : TypeId} {g : Nat} {w0 w : World} {L : List UInt8} (h : Bt T g w0 L w) (i : Nat) (x : UInt8) : Bt T g w0 (L.set i x) (w.setCell ⟨g, i, none⟩ (valB x)) := by
  refine ⟨h.ge, ?_, h.bel.setCell h.ge _⟩
  rw [heap_setCell_same w g i _ _ _ h.ro]
  congr 2
  apply Array.toList_inj.1
  simp [vls, List.map_set]
theorem Bt.cell {T : TypeId} {g : Nat} {w0 w : World} {L : List UInt8} (h : Bt T g w0 L w) (i : Nat) (hi : i < L.length) : w.cell? ⟨g, i, none⟩ = some (.int .u8 ((L.getD i 0).toNat : Int)) := by
  rw [cell_of_row w g i _ _ _ h.ro]
  simp [vls, hi, valB]
theorem Bt.free {T : TypeId} {g : Nat} {w0 w : World} {L : List UInt8} (h : Bt T g w0 L w) (i : Nat) : w.frozen? ⟨g, i, none⟩ = false := frozen_of_row w g i _ _ h.ro
theorem Bt.lt {T : TypeId} {g : Nat} {w0 w : World} {L : List UInt8} (h : Bt T g w0 L w) : g < w.heap.size := (Array.getElem?_eq_some_iff.1 h.ro).1
theorem Bt.on {T : TypeId} {g : Nat} {w0 w w' : World} {L : List UInt8} (h : Bt T g w0 L w) (hb : Below w.heap.size w w') : Bt T g w0 L w' := ⟨h.ge, (hb.block _ h.lt).trans h.ro, h.bel.trans (hb.mono h.bel.size)⟩
theorem Bt.drewN {T : TypeId} {g : Nat} {w0 w : World} {L : List UInt8} (h : Bt T g w0 L w) (k : Nat) : Bt T g w0 L (w.drewN k) := ⟨h.ge, h.ro, below_drewN h.bel k⟩
theorem Bt.made {T : TypeId} {w0 w : World} (hb : Below w0.heap.size w0 w) (L : List UInt8) : Bt T w.heap.size w0 L (w.alloc (.cells (vls L).toArray T (0, 0))) :=
  ⟨hb.size, (MapKept.heap_alloc w _).1, below_alloc hb _⟩
theorem Bt.conv {T : TypeId} {g : Nat} {w0 w : World} {L : List UInt8} (h : Bt T g w0 L w) (n c : Nat) (hn : L.length = n) :
    (convert 62 9 (.slice (some ⟨g, 0, none⟩) n c)).run Tryd.prog w = .ok (.string (bs L)) w := by
  refine run_bytes_to_string w 62 9 5 Tryd.underlying62 Tryd.underlying5 Tryd.underlying9 g 0 n c L hn (fun j hj => ?_)
  rw [Nat.zero_add, cell_of_row w g j _ _ _ h.ro]
  simp [vls, valB, hj]
theorem bt_copied {T : TypeId} {g : Nat} {w0 w : World} {n : Nat} (h : Bt T g w0 (List.replicate n 0) w) (r : ByteArray) :
    Bt T g w0 (ls r ++ List.replicate (n - (ls r).length) 0) (w.setRow g ((vls (List.replicate n 0)).toArray.toList.take 0 ++ Lib.byteCells r.data.toList ++ (vls (List.replicate n 0)).toArray.toList.drop (0 + r.size)).toArray) := by
  refine ⟨h.ge, ?_, below_setRow h.bel h.ge _⟩
  rw [setRow_heap w g _ _ _ _ h.ro]
  congr 2
  apply Array.toList_inj.1
  simp [vls, Lib.byteCells, ls, valB]
theorem wpList_copy_bt {w : World} {ops : Array Oper} {rest : List Oper} {o : Oper} {a : Act} {Q : Exit → Act → World → Prop} (hgd : o.guard = none) (d s : Operand)
    (ho : o.op = .call { callee := .builtin .copy, args := #[d, s], argTypes := #[62, 9] })
    (T : TypeId) (g n dCap : Nat) (str : ByteArray) (hd : a.eval d = .slice (some ⟨g, 0, none⟩) n dCap) (hs : a.eval s = .string str)
    (w0 : World) (hg : Bt T g w0 (List.replicate n 0) w) (hle : str.size ≤ n)
    (h : ∀ w', Bt T g w0 (ls str ++ List.replicate (n - (ls str).length) 0) w' → wpList Tryd.prog ops Q rest (a.put o.dst (goInt str.size)) w') : wpList Tryd.prog ops Q (o :: rest) a w := by
  refine wpList_plain hgd fun K hK => ?_
  have hrun := Lib.run_copy_row_string (P := Tryd.prog) w 62 9 o.type 5 g 0 n dCap str (vls (List.replicate n 0)).toArray T Tryd.underlying62 (by kernel_rfl) hg.ro hle (by simpa [vls] using hle)
  have h' := h _ (bt_copied hg str)
  generalize (w.setRow g _) = w' at hrun h'
  unfold Oper.wp
  simp [execOp, ho, resolve, invoke, builtin, hd, hs, hrun, Result.andThen]
  exact hK _ _ h'
theorem made_u8 (m : Nat) : (madeCells #[Value.int .u8 0] m).toList = vls (List.replicate m 0) := by
  rw [toList_madeCells_one, vls, List.map_replicate]
  rfl
theorem zeros16 : (#[.int .u8 0, .int .u8 0, .int .u8 0, .int .u8 0, .int .u8 0, .int .u8 0, .int .u8 0, .int .u8 0, .int .u8 0, .int .u8 0, .int .u8 0, .int .u8 0, .int .u8 0, .int .u8 0, .int .u8 0, .int .u8 0] : Array Value) = (vls (List.replicate 16 0)).toArray := rfl
set_option maxRecDepth 100000 in
theorem wpList_append_strP {w : World} {ops : Array Oper} {rest : List Oper} {o : Oper} {a : Act} {Q : Exit → Act → World → Prop} (hgd : o.guard = none) (sl x : Operand)
    (ho : o.op = .call { callee := .builtin .append, args := #[sl, x], argTypes := #[62, 9] })
    (base : Nat) (v : Value) (n : Nat) (l : List UInt8) (hs : a.eval sl = v) (hown : w.ownsRow base 5 1 v n (vls l)) (s : ByteArray) (hx : a.eval x = .string s) (hb : n + s.size ≤ 1000000) (hbase : base ≤ w.heap.size)
    (h : ∀ v' w', w'.ownsRow base 5 1 v' (n + s.size) (vls (l ++ ls s)) → w.grownBy w' v.ownBlock → wpList Tryd.prog ops Q rest (a.put o.dst v') w') : wpList Tryd.prog ops Q (o :: rest) a w := by
  refine wpList_plain hgd fun K hK => ?_
  obtain ⟨i8, hj0, hy0, hy1, hy2⟩ : ∃ i, Tryd.prog.info? 5 = some i ∧ i.zero = some (.int .u8 0) ∧ i.size = 1 ∧ i.bytes = 1 := ⟨_, rfl, rfl, rfl, rfl⟩
  obtain ⟨v', w', hr, h2, h3, _⟩ := Lib.run_append_own_string (P := Tryd.prog) w base 62 9 o.type 5 i8 Tryd.underlying62 Tryd.underlying9 hj0 hy0 hy1 hy2 v n (vls l) hown s (by unfold maxLen; omega) (by omega) hbase
  have e : vls l ++ Lib.strCells s = vls (l ++ ls s) := by
    simp [vls, Lib.strCells, ls, valB]
  rw [e] at h2
  unfold Oper.wp execOp
  simp only [ho, resolve, invoke, builtin, Sem.run_bind, Sem.run_pure, Result.andThen_ok, List.map_toArray, List.map_cons, List.map_nil, hs, hx, hr]
  exact hK _ _ (h v' w' h2 h3)
end Go.Proofs.YtfckjilhkdlpfaaDoor
