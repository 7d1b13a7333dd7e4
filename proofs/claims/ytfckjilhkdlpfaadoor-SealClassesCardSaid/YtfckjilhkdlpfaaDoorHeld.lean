/-
  Regions that draw their order: the loads taken first (in every world grown from the region's own), the calls met one by one, whatever they hand back.
-/
import Derived.Test.YtfckjilhkdlpfaaDoorApp2
import Derived.Test.YtfckjilhkdlpfaaDoorBQ
import Derived.Laws.Rows
namespace Go.Proofs.YtfckjilhkdlpfaaDoor
open Go.RowKit MS

section
variable {P : Program} {ops : Array Oper} {Q : Exit → Act → World → Prop}
theorem wpOp_call {i d f : Nat} {o : Oper} {args : Array Value} {K : Act → World → Prop} {a : Act} {w : World} (hi : ops[i]? = some o) (hw : Region.wanted o (yielded ops a.tmps) = true) (hd : o.dst = some d)
    (hrun : (execOp a.eval o).run P w = .ok (.enter f args) w) (hc : Calls P f args w fun e w' => ∃ v, e = .returned v ∧ K (a.put (some d) v) w') : wpOp P ops Q i K a w := by
  unfold wpOp
  simp only [hi]
  rw [if_pos hw]
  refine .inl ?_
  unfold Oper.wp
  rw [hrun]
  simp only [Oper.upon]
  refine hc.mono ?_
  rintro e w' ⟨v, rfl, h⟩
  rw [hd]
  exact h
theorem run_load_row {ρ : Operand → Value} {o : Oper} {w : World} (ty : TypeId) (x : Operand) (ho : o.op = .load ty x) (g : Nat) (hx : ρ x = .pointer (some ⟨g, 0, none⟩)) (t : TypeId) (cs : Array Value) (fr : Nat × Nat) (d : TypeDesc) (hC : w.heap[g]? = some (.cells cs t fr))
    (hu : P.underlying ty = some d) (hd : (match d with | .struct _ | .array _ _ => true | _ => false) = true) (hi : (P.info? ty).map (·.size) = some cs.size) : (execOp ρ o).run P w = .ok (.value (.agg cs)) w := by
  unfold execOp
  simp only [ho, hx, Instr.loadAt, Instr.sureAddr, Sem.run_bind, Sem.run_pure, Result.andThen_ok, run_loadVar_row w g t ty cs fr d hC hu hd hi]

/-- What is left stands in one forced order, that of the list. -/
def idxB (md : Region.Mode) (ops : Array Oper) : List Nat → Array Bool → Bool
  | [], listed => (Region.ready md ops listed).isEmpty
  | i :: is, listed => decide (Region.ready md ops listed = [i]) && idxB md ops is (listed.setIfInBounds i true)
theorem wpAny_of_idx {md : Region.Mode} : ∀ (is : List Nat) (l : List Oper) (listed : Array Bool) (a : Act) (w : World), idxB md ops is listed = true → is.map (ops[·]?) = l.map some → wpList P ops Q l a w → wpAny P md ops Q is.length listed a w
  | [], l, listed, a, w, hB, hl, h => by
    cases l with
    | nil => exact ⟨by simpa [idxB] using hB, h⟩
    | cons o l => simp at hl
  | i :: is, l, listed, a, w, hB, hl, h => by
    cases l with
    | nil => simp at hl
    | cons o l =>
      simp only [List.map_cons, List.cons.injEq] at hl
      simp only [idxB, Bool.and_eq_true, decide_eq_true_eq] at hB
      refine ⟨fun h1 => (by rw [hB.1] at h1; cases h1), fun j hj => ?_⟩
      rw [hB.1] at hj
      have hij : j = i := by simpa using hj
      subst hij
      have hw : wpOp P ops Q j (wpList P ops Q l) a w := by unfold wpOp; simp only [hl.1]; exact h
      exact wpOp_mono (fun a' w' h' => wpAny_of_idx is l _ a' w' hB.2 hl.2 h') hw
end
end Go.Proofs.YtfckjilhkdlpfaaDoor
