/-
  No cell of these rows narrows 'for every input' (looked for: loops, veiled, ifaces, maps, wideKeys, modest, calm, conditions, laid).
  DERIVED. THE GIVEN ROWS OF THIS SEAT. 3 by the template 'for every input the law returns true; each argument reads behind the call as it read before'; 0 by the template 'total and deterministic' (their statements: YtfckjilhkdlpfaaTotals.lean).
  GIVEN WITH THE SEED: the statements are not yours to turn. If you find one false, say at which input.
  Laid BY PROGRAM, IN A SANDBOX (cutbox-rows.mjs): the forced cells as the released guide's own fill.sh prints them over the translation 2cbfd6ef84e2efc0… (all of the seat's roots in one cut). By AI agents, Wed Nov 11 2026. No macro, syntax, notation, axiom, sorry.
-/
import Derived.Test.YtfckjilhkdlpfaaChecked
import GoSem.Claim
import GoSem.ClaimJoined
import GoSem.ClaimMapViews
import Derived.JoinedTies
import Derived.KernelRfl
namespace Go.Proofs.Ytfckjilhkdlpfaa
/- THE CELL 'sum', in the pinned program and in every row, IS THE sha256 OF THE DUMP (.gsa) THAT YtfckjilhkdlpfaaProg.lean LOADS. Nothing in Lean hashes anything: it is a label: what it is worth is what the hold of that sum in a sandbox is worth. -/
noncomputable def Try.pinned : Pinned := { name := "ytfckjilhkdlpfaa", sum := "2cbfd6ef84e2efc092034bd36c02d263096fa018d703d312f05bfea4fb3fb676", checked := Try.checked }
namespace Rows
def none {H : Type} : Left H := { results := [], args := [] }

/-- 'mailsacklaw13.RingPuts': WHATEVER THE INPUT: true; the input reads as it did. -/
def ringPutsSpec : ChangeSpec := { name := "ringPuts", fn := fun _ => fun
  | [d] => { results := [.lit (.bool true)], args := [d] }
  | _ => none }
def ringPutsRow : OpenClaim := { program := "ytfckjilhkdlpfaa", sum := "2cbfd6ef84e2efc092034bd36c02d263096fa018d703d312f05bfea4fb3fb676", func := "mailsack/mailsacklaw13.RingPuts", spec := "ringPuts", unfollowed := true, recurses := true, apart := false }
def RingPutsSaid : Prop := ringPutsRow.holds Try.pinned (OpenSpec.ofChange ringPutsSpec)

/-- ITS FALSE NEIGHBOUR: 'it returns false'. Refute it at one input. -/
def ringPutsWrong : ChangeSpec := { name := "ringPuts", fn := fun _ => fun
  | [d] => { results := [.lit (.bool false)], args := [d] }
  | _ => none }
def RingPutsWrongFalsely : Prop := ringPutsRow.holds Try.pinned (OpenSpec.ofChange ringPutsWrong)

/-- 'mailsacklaw13.RingTakes': WHATEVER THE INPUT: true; the input reads as it did. -/
def ringTakesSpec : ChangeSpec := { name := "ringTakes", fn := fun _ => fun
  | [d] => { results := [.lit (.bool true)], args := [d] }
  | _ => none }
def ringTakesRow : OpenClaim := { program := "ytfckjilhkdlpfaa", sum := "2cbfd6ef84e2efc092034bd36c02d263096fa018d703d312f05bfea4fb3fb676", func := "mailsack/mailsacklaw13.RingTakes", spec := "ringTakes", unfollowed := true, recurses := true, apart := false }
def RingTakesSaid : Prop := ringTakesRow.holds Try.pinned (OpenSpec.ofChange ringTakesSpec)

/-- ITS FALSE NEIGHBOUR: 'it returns false'. Refute it at one input. -/
def ringTakesWrong : ChangeSpec := { name := "ringTakes", fn := fun _ => fun
  | [d] => { results := [.lit (.bool false)], args := [d] }
  | _ => none }
def RingTakesWrongFalsely : Prop := ringTakesRow.holds Try.pinned (OpenSpec.ofChange ringTakesWrong)

/-- 'mailsacklaw13.RingSizes': WHATEVER THE INPUT: true; the input reads as it did. -/
def ringSizesSpec : ChangeSpec := { name := "ringSizes", fn := fun _ => fun
  | [d] => { results := [.lit (.bool true)], args := [d] }
  | _ => none }
def ringSizesRow : OpenClaim := { program := "ytfckjilhkdlpfaa", sum := "2cbfd6ef84e2efc092034bd36c02d263096fa018d703d312f05bfea4fb3fb676", func := "mailsack/mailsacklaw13.RingSizes", spec := "ringSizes", unfollowed := true, recurses := true, apart := false }
def RingSizesSaid : Prop := ringSizesRow.holds Try.pinned (OpenSpec.ofChange ringSizesSpec)

/-- ITS FALSE NEIGHBOUR: 'it returns false'. Refute it at one input. -/
def ringSizesWrong : ChangeSpec := { name := "ringSizes", fn := fun _ => fun
  | [d] => { results := [.lit (.bool false)], args := [d] }
  | _ => none }
def RingSizesWrongFalsely : Prop := ringSizesRow.holds Try.pinned (OpenSpec.ofChange ringSizesWrong)

/- THE SECOND FORM. 'bulk': how many values and letters a reading holds, each counted each time it is reached (what is shared counts as often as it is met; a slice's spare places count too). A statement '..UptoSaid' is the law's where the arguments, and the package variables that the reading takes, are together of bulk at most 1048576: NARROWER than '..Said'. Prove '..Said' where nothing that the law and all that it calls make is longer than what came in: it says more and counts as full. Else prove '..UptoSaid'. A law counts once. -/
mutual
def uptoBulk {H : Type} : DataW H → Nat
  | .lit (.string bytes) => bytes.length + 1
  | .lit _ => 1
  | .nil => 1
  | .ptr d => uptoBulk d + 1
  | .slice elems spare => uptoBulkAll elems + uptoBulkAll spare + 1
  | .agg parts => uptoBulkAll parts + 1
  | .iface _ d => uptoBulk d + 1
  | .map entries => uptoBulkEntries entries + 1
  | .held _ => 1
def uptoBulkAll {H : Type} : List (DataW H) → Nat
  | [] => 0
  | d :: r => uptoBulk d + uptoBulkAll r
def uptoBulkEntries {H : Type} : List (Lit × DataW H) → Nat
  | [] => 0
  | x :: r => uptoBulkEntry x + uptoBulkEntries r
def uptoBulkEntry {H : Type} : Lit × DataW H → Nat
  | (.string bytes, d) => bytes.length + uptoBulk d + 1
  | (_, d) => uptoBulk d + 1
 end
def uptoSmall : (H : Type) → List (DataW H) → Bool := fun _ ds => decide (uptoBulkAll ds ≤ 1048576)
def OpenSpec.upto (s : _root_.Go.ChangeSpec) : _root_.Go.OpenSpec := { _root_.Go.OpenSpec.ofChange s with cond := some uptoSmall }

/-- 'mailsacklaw13.RingPuts', WHERE WHAT IT READS IS OF BULK AT MOST 1048576: true; the input reads as it did. -/
def ringPutsUptoRow : OpenClaim := { program := "ytfckjilhkdlpfaa", sum := "2cbfd6ef84e2efc092034bd36c02d263096fa018d703d312f05bfea4fb3fb676", func := "mailsack/mailsacklaw13.RingPuts", spec := "ringPuts", unfollowed := true, recurses := true, apart := false, narrowed := true }
def RingPutsUptoSaid : Prop := ringPutsUptoRow.holds Try.pinned (OpenSpec.upto ringPutsSpec)

/-- 'mailsacklaw13.RingTakes', WHERE WHAT IT READS IS OF BULK AT MOST 1048576: true; the input reads as it did. -/
def ringTakesUptoRow : OpenClaim := { program := "ytfckjilhkdlpfaa", sum := "2cbfd6ef84e2efc092034bd36c02d263096fa018d703d312f05bfea4fb3fb676", func := "mailsack/mailsacklaw13.RingTakes", spec := "ringTakes", unfollowed := true, recurses := true, apart := false, narrowed := true }
def RingTakesUptoSaid : Prop := ringTakesUptoRow.holds Try.pinned (OpenSpec.upto ringTakesSpec)

/-- 'mailsacklaw13.RingSizes', WHERE WHAT IT READS IS OF BULK AT MOST 1048576: true; the input reads as it did. -/
def ringSizesUptoRow : OpenClaim := { program := "ytfckjilhkdlpfaa", sum := "2cbfd6ef84e2efc092034bd36c02d263096fa018d703d312f05bfea4fb3fb676", func := "mailsack/mailsacklaw13.RingSizes", spec := "ringSizes", unfollowed := true, recurses := true, apart := false, narrowed := true }
def RingSizesUptoSaid : Prop := ringSizesUptoRow.holds Try.pinned (OpenSpec.upto ringSizesSpec)

end Rows
end Go.Proofs.Ytfckjilhkdlpfaa
