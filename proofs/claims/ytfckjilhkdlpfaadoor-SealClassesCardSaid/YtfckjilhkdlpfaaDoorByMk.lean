/-
  Bytes made and turned into strings, in plain regions and in such that draw their order.
-/
import Derived.Test.YtfckjilhkdlpfaaDoorBytE
import Derived.Test.YtfckjilhkdlpfaaDoorTwo
namespace Go.Proofs.YtfckjilhkdlpfaaDoor
open Go.RowKit MS

section
variable {ops : Array Oper} {Q : Exit → Act → World → Prop}
set_option maxRecDepth 100000 in
theorem run_make_u8 (w : World) (N : Nat) (hN : N ≤ 1000000) : (Instr.makeSlice 62 (.int .i64 (N : Int)) (.int .i64 (N : Int))).run Tryd.prog w = .ok (.slice (some ⟨w.heap.size, 0, none⟩) N N) (w.alloc (.cells (vls (List.replicate N 0)).toArray 5 (0, 0))) := by
  obtain ⟨i8, hj0, hy0, hy1, hy2⟩ : ∃ i, Tryd.prog.info? 5 = some i ∧ i.zero = some (.int .u8 0) ∧ i.size = 1 ∧ i.bytes = 1 := ⟨_, rfl, rfl, rfl, rfl⟩
  have hrun := run_make (P := Tryd.prog) w 62 5 i8 (.int .u8 0) Tryd.underlying62 hj0 hy0 .i64 .i64 (N : Int) (N : Int) (by omega) (by omega) (by rw [hy2]; omega) (by omega)
  rw [hy1] at hrun
  simp only [Int.toNat_natCast, Nat.mul_one] at hrun
  have hz : madeCells (Value.int .u8 0).cells N = (vls (List.replicate N 0)).toArray := by
    apply Array.toList_inj.1
    exact made_u8 N
  rw [hz] at hrun
  exact hrun
theorem wpOp_make_u8 {i d : Nat} {o : Oper} {x y : Operand} {N : Nat} {K : Act → World → Prop} {a : Act} {w : World} (hi : ops[i]? = some o) (hg : o.guard = none) (hd : o.dst = some d) (ho : o.op = .makeSlice 62 x y)
    (hx : a.eval x = .int .i64 (N : Int)) (hy : a.eval y = .int .i64 (N : Int)) (hN : N ≤ 1000000)
    (h : K (a.put (some d) (.slice (some ⟨w.heap.size, 0, none⟩) N N)) (w.alloc (.cells (vls (List.replicate N 0)).toArray 5 (0, 0)))) : wpOp Tryd.prog ops Q i K a w := by
  unfold wpOp
  simp only [hi]
  have hw : Region.wanted o (yielded ops a.tmps) = true := by simp [Region.wanted, hg]
  rw [if_pos hw]
  refine .inl ?_
  unfold Oper.wp execOp
  simp only [ho, hx, hy, Sem.run_bind, Sem.run_pure, Result.andThen_ok, run_make_u8 w N hN, Oper.upon, hd]
  exact h
theorem wpOp_conv_u8 {i d : Nat} {o : Oper} {x : Operand} {g N c : Nat} {l : List UInt8} {s : ByteArray} {K : Act → World → Prop} {a : Act} {w : World} (hi : ops[i]? = some o) (hg : o.guard = none) (hd : o.dst = some d) (ho : o.op = .convert 62 9 x)
    (hx : a.eval x = .slice (some ⟨g, 0, none⟩) N c) (hb : w.heap[g]? = some (.cells (vls l).toArray 5 (0, 0))) (hl : l.length = N) (hs : bs l = s) (h : K (a.put (some d) (.string s)) w) : wpOp Tryd.prog ops Q i K a w := by
  subst hs
  unfold wpOp
  simp only [hi]
  have hw : Region.wanted o (yielded ops a.tmps) = true := by simp [Region.wanted, hg]
  rw [if_pos hw]
  refine .inl ?_
  have hc : (convert 62 9 (.slice (some ⟨g, 0, none⟩) N c)).run Tryd.prog w = .ok (.string (bs l)) w := by
    refine run_bytes_to_string w 62 9 5 Tryd.underlying62 Tryd.underlying5 Tryd.underlying9 g 0 N c l hl (fun j hj => ?_)
    rw [Nat.zero_add, cell_of_row w g j _ _ _ hb]
    simp [vls, valB, hj]
  unfold Oper.wp execOp
  simp only [ho, hx, Sem.run_bind, Sem.run_pure, Result.andThen_ok, hc, Oper.upon, hd]
  exact h
end
theorem pconv_zeros (w : World) (N : Nat) : (convert 62 9 (.slice (some ⟨w.heap.size, 0, none⟩) N N)).run Tryd.prog (w.alloc (.cells (vls (List.replicate N 0)).toArray 5 (0, 0))) = .ok (.string (bs (List.replicate N 0))) (w.alloc (.cells (vls (List.replicate N 0)).toArray 5 (0, 0))) :=
  (Bt.made (T := 5) (Below.refl w.heap.size w) (List.replicate N 0)).conv N N (by simp)
theorem wpList_make_u8 {w : World} {ops : Array Oper} {rest : List Oper} {o : Oper} {a : Act} {Q : Exit → Act → World → Prop} (hgd : o.guard = none) (x y : Operand) (ho : o.op = .makeSlice 62 x y) (N : Nat)
    (hx : a.eval x = .int .i64 (N : Int)) (hy : a.eval y = .int .i64 (N : Int)) (hN : N ≤ 1000000)
    (h : wpList Tryd.prog ops Q rest (a.put o.dst (.slice (some ⟨w.heap.size, 0, none⟩) N N)) (w.alloc (.cells (vls (List.replicate N 0)).toArray 5 (0, 0)))) : wpList Tryd.prog ops Q (o :: rest) a w := by
  refine wpList_plain hgd fun K hK => ?_
  unfold Oper.wp execOp
  simp only [ho, hx, hy, Sem.run_bind, Sem.run_pure, Result.andThen_ok, run_make_u8 w N hN]
  exact hK _ _ h
theorem wpList_conv_u8 {w : World} {ops : Array Oper} {rest : List Oper} {o : Oper} {a : Act} {Q : Exit → Act → World → Prop} (hgd : o.guard = none) (x : Operand) (ho : o.op = .convert 62 9 x) (g N c : Nat) (l : List UInt8) (s : ByteArray)
    (hx : a.eval x = .slice (some ⟨g, 0, none⟩) N c) (hb : w.heap[g]? = some (.cells (vls l).toArray 5 (0, 0))) (hl : l.length = N) (hs : bs l = s)
    (h : wpList Tryd.prog ops Q rest (a.put o.dst (.string s)) w) : wpList Tryd.prog ops Q (o :: rest) a w := by
  subst hs
  refine wpList_plain hgd fun K hK => ?_
  have hc : (convert 62 9 (.slice (some ⟨g, 0, none⟩) N c)).run Tryd.prog w = .ok (.string (bs l)) w := by
    refine run_bytes_to_string w 62 9 5 Tryd.underlying62 Tryd.underlying5 Tryd.underlying9 g 0 N c l hl (fun j hj => ?_)
    rw [Nat.zero_add, cell_of_row w g j _ _ _ hb]
    simp [vls, valB, hj]
  unfold Oper.wp execOp
  simp only [ho, hx, Sem.run_bind, Sem.run_pure, Result.andThen_ok, hc]
  exact hK _ _ h
end Go.Proofs.YtfckjilhkdlpfaaDoor
