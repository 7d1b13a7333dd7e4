/-
  No cell of these rows narrows 'for every input' (looked for: loops, veiled, ifaces, maps, wideKeys, modest, calm, conditions, laid).
  DERIVED. THE GIVEN ROWS OF THIS SEAT. 12 by the template 'for every input the law returns true; each argument reads behind the call as it read before'; 0 by the template 'total and deterministic' (their statements: YthlmphloalbhnaaTotals.lean).
  GIVEN WITH THE SEED: the statements are not yours to turn. If you find one false, say at which input.
  Laid BY PROGRAM, IN A SANDBOX (cutbox-rows.mjs): the forced cells as the released guide's own fill.sh prints them over the translation d96dd4358c797a0e… (all of the seat's roots in one cut). By AI agents, Wed Nov 11 2026. No macro, syntax, notation, axiom, sorry.
-/
import Derived.Test.YthlmphloalbhnaaChecked
import GoSem.Claim
import GoSem.ClaimJoined
import GoSem.ClaimMapViews
import Derived.JoinedTies
import Derived.KernelRfl
namespace Go.Proofs.Ythlmphloalbhnaa
/- THE CELL 'sum', in the pinned program and in every row, IS THE sha256 OF THE DUMP (.gsa) THAT YthlmphloalbhnaaProg.lean LOADS. Nothing in Lean hashes anything: it is a label: what it is worth is what the hold of that sum in a sandbox is worth. -/
noncomputable def Try.pinned : Pinned := { name := "ythlmphloalbhnaa", sum := "d96dd4358c797a0eae838dca3e4b6984c4e9f1f7c7858efbe6703e834ef4e2c3", checked := Try.checked }
namespace Rows
def none {H : Type} : Left H := { results := [], args := [] }

/-- 'mailsacklaw03.FeProducts': WHATEVER THE INPUT: true; the input reads as it did. -/
def feProductsSpec : ChangeSpec := { name := "feProducts", fn := fun _ => fun
  | [d1, d2, d3] => { results := [.lit (.bool true)], args := [d1, d2, d3] }
  | _ => none }
def feProductsRow : OpenClaim := { program := "ythlmphloalbhnaa", sum := "d96dd4358c797a0eae838dca3e4b6984c4e9f1f7c7858efbe6703e834ef4e2c3", func := "mailsack/mailsacklaw03.FeProducts", spec := "feProducts", inPlace := ["math/bits.Add64"], apart := false }
def FeProductsSaid : Prop := feProductsRow.holds Try.pinned (OpenSpec.ofChange feProductsSpec)

/-- ITS FALSE NEIGHBOUR: 'it returns false'. Refute it at one input. -/
def feProductsWrong : ChangeSpec := { name := "feProducts", fn := fun _ => fun
  | [d1, d2, d3] => { results := [.lit (.bool false)], args := [d1, d2, d3] }
  | _ => none }
def FeProductsWrongFalsely : Prop := feProductsRow.holds Try.pinned (OpenSpec.ofChange feProductsWrong)

/-- 'mailsacklaw03.FeSums': WHATEVER THE INPUT: true; the input reads as it did. -/
def feSumsSpec : ChangeSpec := { name := "feSums", fn := fun _ => fun
  | [d1, d2] => { results := [.lit (.bool true)], args := [d1, d2] }
  | _ => none }
def feSumsRow : OpenClaim := { program := "ythlmphloalbhnaa", sum := "d96dd4358c797a0eae838dca3e4b6984c4e9f1f7c7858efbe6703e834ef4e2c3", func := "mailsack/mailsacklaw03.FeSums", spec := "feSums", inPlace := ["math/bits.Add64"], apart := false }
def FeSumsSaid : Prop := feSumsRow.holds Try.pinned (OpenSpec.ofChange feSumsSpec)

/-- ITS FALSE NEIGHBOUR: 'it returns false'. Refute it at one input. -/
def feSumsWrong : ChangeSpec := { name := "feSums", fn := fun _ => fun
  | [d1, d2] => { results := [.lit (.bool false)], args := [d1, d2] }
  | _ => none }
def FeSumsWrongFalsely : Prop := feSumsRow.holds Try.pinned (OpenSpec.ofChange feSumsWrong)

/-- 'mailsacklaw03.FeLaws': WHATEVER THE INPUT: true; the input reads as it did. -/
def feLawsSpec : ChangeSpec := { name := "feLaws", fn := fun _ => fun
  | [d1, d2, d3] => { results := [.lit (.bool true)], args := [d1, d2, d3] }
  | _ => none }
def feLawsRow : OpenClaim := { program := "ythlmphloalbhnaa", sum := "d96dd4358c797a0eae838dca3e4b6984c4e9f1f7c7858efbe6703e834ef4e2c3", func := "mailsack/mailsacklaw03.FeLaws", spec := "feLaws", inPlace := ["math/bits.Add64"], apart := false }
def FeLawsSaid : Prop := feLawsRow.holds Try.pinned (OpenSpec.ofChange feLawsSpec)

/-- ITS FALSE NEIGHBOUR: 'it returns false'. Refute it at one input. -/
def feLawsWrong : ChangeSpec := { name := "feLaws", fn := fun _ => fun
  | [d1, d2, d3] => { results := [.lit (.bool false)], args := [d1, d2, d3] }
  | _ => none }
def FeLawsWrongFalsely : Prop := feLawsRow.holds Try.pinned (OpenSpec.ofChange feLawsWrong)

/-- 'mailsacklaw03.FeNegs': WHATEVER THE INPUT: true; the input reads as it did. -/
def feNegsSpec : ChangeSpec := { name := "feNegs", fn := fun _ => fun
  | [d1, d2, d3] => { results := [.lit (.bool true)], args := [d1, d2, d3] }
  | _ => none }
def feNegsRow : OpenClaim := { program := "ythlmphloalbhnaa", sum := "d96dd4358c797a0eae838dca3e4b6984c4e9f1f7c7858efbe6703e834ef4e2c3", func := "mailsack/mailsacklaw03.FeNegs", spec := "feNegs", inPlace := ["math/bits.Add64"], apart := false }
def FeNegsSaid : Prop := feNegsRow.holds Try.pinned (OpenSpec.ofChange feNegsSpec)

/-- ITS FALSE NEIGHBOUR: 'it returns false'. Refute it at one input. -/
def feNegsWrong : ChangeSpec := { name := "feNegs", fn := fun _ => fun
  | [d1, d2, d3] => { results := [.lit (.bool false)], args := [d1, d2, d3] }
  | _ => none }
def FeNegsWrongFalsely : Prop := feNegsRow.holds Try.pinned (OpenSpec.ofChange feNegsWrong)

/-- 'mailsacklaw03.FeSwaps': WHATEVER THE INPUT: true; the input reads as it did. -/
def feSwapsSpec : ChangeSpec := { name := "feSwaps", fn := fun _ => fun
  | [d1, d2, d3] => { results := [.lit (.bool true)], args := [d1, d2, d3] }
  | _ => none }
def feSwapsRow : OpenClaim := { program := "ythlmphloalbhnaa", sum := "d96dd4358c797a0eae838dca3e4b6984c4e9f1f7c7858efbe6703e834ef4e2c3", func := "mailsack/mailsacklaw03.FeSwaps", spec := "feSwaps", inPlace := ["math/bits.Add64"], apart := false }
def FeSwapsSaid : Prop := feSwapsRow.holds Try.pinned (OpenSpec.ofChange feSwapsSpec)

/-- ITS FALSE NEIGHBOUR: 'it returns false'. Refute it at one input. -/
def feSwapsWrong : ChangeSpec := { name := "feSwaps", fn := fun _ => fun
  | [d1, d2, d3] => { results := [.lit (.bool false)], args := [d1, d2, d3] }
  | _ => none }
def FeSwapsWrongFalsely : Prop := feSwapsRow.holds Try.pinned (OpenSpec.ofChange feSwapsWrong)

/-- 'mailsacklaw03.FeParts': WHATEVER THE INPUT: true; the input reads as it did. -/
def fePartsSpec : ChangeSpec := { name := "feParts", fn := fun _ => fun
  | [d1, d2, d3] => { results := [.lit (.bool true)], args := [d1, d2, d3] }
  | _ => none }
def fePartsRow : OpenClaim := { program := "ythlmphloalbhnaa", sum := "d96dd4358c797a0eae838dca3e4b6984c4e9f1f7c7858efbe6703e834ef4e2c3", func := "mailsack/mailsacklaw03.FeParts", spec := "feParts", inPlace := ["math/bits.Add64"], apart := false }
def FePartsSaid : Prop := fePartsRow.holds Try.pinned (OpenSpec.ofChange fePartsSpec)

/-- ITS FALSE NEIGHBOUR: 'it returns false'. Refute it at one input. -/
def fePartsWrong : ChangeSpec := { name := "feParts", fn := fun _ => fun
  | [d1, d2, d3] => { results := [.lit (.bool false)], args := [d1, d2, d3] }
  | _ => none }
def FePartsWrongFalsely : Prop := fePartsRow.holds Try.pinned (OpenSpec.ofChange fePartsWrong)

/-- 'mailsacklaw03.FeInverts': WHATEVER THE INPUT: true; the input reads as it did. -/
def feInvertsSpec : ChangeSpec := { name := "feInverts", fn := fun _ => fun
  | [d] => { results := [.lit (.bool true)], args := [d] }
  | _ => none }
def feInvertsRow : OpenClaim := { program := "ythlmphloalbhnaa", sum := "d96dd4358c797a0eae838dca3e4b6984c4e9f1f7c7858efbe6703e834ef4e2c3", func := "mailsack/mailsacklaw03.FeInverts", spec := "feInverts", inPlace := ["math/bits.Add64"], apart := false }
def FeInvertsSaid : Prop := feInvertsRow.holds Try.pinned (OpenSpec.ofChange feInvertsSpec)

/-- ITS FALSE NEIGHBOUR: 'it returns false'. Refute it at one input. -/
def feInvertsWrong : ChangeSpec := { name := "feInverts", fn := fun _ => fun
  | [d] => { results := [.lit (.bool false)], args := [d] }
  | _ => none }
def FeInvertsWrongFalsely : Prop := feInvertsRow.holds Try.pinned (OpenSpec.ofChange feInvertsWrong)

/-- 'mailsacklaw04.LadderClamps': WHATEVER THE INPUT: true; the input reads as it did. -/
def ladderClampsSpec : ChangeSpec := { name := "ladderClamps", fn := fun _ => fun
  | [d] => { results := [.lit (.bool true)], args := [d] }
  | _ => none }
def ladderClampsRow : OpenClaim := { program := "ythlmphloalbhnaa", sum := "d96dd4358c797a0eae838dca3e4b6984c4e9f1f7c7858efbe6703e834ef4e2c3", func := "mailsack/mailsacklaw04.LadderClamps", spec := "ladderClamps", inPlace := ["math/bits.Add64"], apart := false }
def LadderClampsSaid : Prop := ladderClampsRow.holds Try.pinned (OpenSpec.ofChange ladderClampsSpec)

/-- ITS FALSE NEIGHBOUR: 'it returns false'. Refute it at one input. -/
def ladderClampsWrong : ChangeSpec := { name := "ladderClamps", fn := fun _ => fun
  | [d] => { results := [.lit (.bool false)], args := [d] }
  | _ => none }
def LadderClampsWrongFalsely : Prop := ladderClampsRow.holds Try.pinned (OpenSpec.ofChange ladderClampsWrong)

/-- 'mailsacklaw04.LadderPoints': WHATEVER THE INPUT: true; the input reads as it did. -/
def ladderPointsSpec : ChangeSpec := { name := "ladderPoints", fn := fun _ => fun
  | [d1, d2] => { results := [.lit (.bool true)], args := [d1, d2] }
  | _ => none }
def ladderPointsRow : OpenClaim := { program := "ythlmphloalbhnaa", sum := "d96dd4358c797a0eae838dca3e4b6984c4e9f1f7c7858efbe6703e834ef4e2c3", func := "mailsack/mailsacklaw04.LadderPoints", spec := "ladderPoints", inPlace := ["math/bits.Add64"], apart := false }
def LadderPointsSaid : Prop := ladderPointsRow.holds Try.pinned (OpenSpec.ofChange ladderPointsSpec)

/-- ITS FALSE NEIGHBOUR: 'it returns false'. Refute it at one input. -/
def ladderPointsWrong : ChangeSpec := { name := "ladderPoints", fn := fun _ => fun
  | [d1, d2] => { results := [.lit (.bool false)], args := [d1, d2] }
  | _ => none }
def LadderPointsWrongFalsely : Prop := ladderPointsRow.holds Try.pinned (OpenSpec.ofChange ladderPointsWrong)

/-- 'mailsacklaw04.LadderSame': WHATEVER THE INPUT: true; the input reads as it did. -/
def ladderSameSpec : ChangeSpec := { name := "ladderSame", fn := fun _ => fun
  | [d1, d2, d3, d4] => { results := [.lit (.bool true)], args := [d1, d2, d3, d4] }
  | _ => none }
def ladderSameRow : OpenClaim := { program := "ythlmphloalbhnaa", sum := "d96dd4358c797a0eae838dca3e4b6984c4e9f1f7c7858efbe6703e834ef4e2c3", func := "mailsack/mailsacklaw04.LadderSame", spec := "ladderSame", inPlace := ["math/bits.Add64"], apart := false }
def LadderSameSaid : Prop := ladderSameRow.holds Try.pinned (OpenSpec.ofChange ladderSameSpec)

/-- ITS FALSE NEIGHBOUR: 'it returns false'. Refute it at one input. -/
def ladderSameWrong : ChangeSpec := { name := "ladderSame", fn := fun _ => fun
  | [d1, d2, d3, d4] => { results := [.lit (.bool false)], args := [d1, d2, d3, d4] }
  | _ => none }
def LadderSameWrongFalsely : Prop := ladderSameRow.holds Try.pinned (OpenSpec.ofChange ladderSameWrong)

/-- 'mailsacklaw04.LadderAgrees': WHATEVER THE INPUT: true; the input reads as it did. -/
def ladderAgreesSpec : ChangeSpec := { name := "ladderAgrees", fn := fun _ => fun
  | [d1, d2, d3] => { results := [.lit (.bool true)], args := [d1, d2, d3] }
  | _ => none }
def ladderAgreesRow : OpenClaim := { program := "ythlmphloalbhnaa", sum := "d96dd4358c797a0eae838dca3e4b6984c4e9f1f7c7858efbe6703e834ef4e2c3", func := "mailsack/mailsacklaw04.LadderAgrees", spec := "ladderAgrees", inPlace := ["math/bits.Add64"], apart := false }
def LadderAgreesSaid : Prop := ladderAgreesRow.holds Try.pinned (OpenSpec.ofChange ladderAgreesSpec)

/-- ITS FALSE NEIGHBOUR: 'it returns false'. Refute it at one input. -/
def ladderAgreesWrong : ChangeSpec := { name := "ladderAgrees", fn := fun _ => fun
  | [d1, d2, d3] => { results := [.lit (.bool false)], args := [d1, d2, d3] }
  | _ => none }
def LadderAgreesWrongFalsely : Prop := ladderAgreesRow.holds Try.pinned (OpenSpec.ofChange ladderAgreesWrong)

/-- 'mailsacklaw04.LadderSmall': WHATEVER THE INPUT: true; the input reads as it did. -/
def ladderSmallSpec : ChangeSpec := { name := "ladderSmall", fn := fun _ => fun
  | [d] => { results := [.lit (.bool true)], args := [d] }
  | _ => none }
def ladderSmallRow : OpenClaim := { program := "ythlmphloalbhnaa", sum := "d96dd4358c797a0eae838dca3e4b6984c4e9f1f7c7858efbe6703e834ef4e2c3", func := "mailsack/mailsacklaw04.LadderSmall", spec := "ladderSmall", inPlace := ["math/bits.Add64"], apart := false }
def LadderSmallSaid : Prop := ladderSmallRow.holds Try.pinned (OpenSpec.ofChange ladderSmallSpec)

/-- ITS FALSE NEIGHBOUR: 'it returns false'. Refute it at one input. -/
def ladderSmallWrong : ChangeSpec := { name := "ladderSmall", fn := fun _ => fun
  | [d] => { results := [.lit (.bool false)], args := [d] }
  | _ => none }
def LadderSmallWrongFalsely : Prop := ladderSmallRow.holds Try.pinned (OpenSpec.ofChange ladderSmallWrong)

/- THE SECOND FORM. 'bulk': how many values and letters a reading holds, each counted each time it is reached (what is shared counts as often as it is met; a slice's spare places count too). A statement '..UptoSaid' is the law's where the arguments, and the package variables that the reading takes, are together of bulk at most 1048576: NARROWER than '..Said'. Prove '..Said' where nothing that the law and all that it calls make is longer than what came in: it says more and counts as full. Else prove '..UptoSaid'. A law counts once. -/
mutual
def uptoBulk {H : Type} : DataW H → Nat
  | .lit (.string bytes) => bytes.length + 1
  | .lit _ => 1
  | .nil => 1
  | .ptr d => uptoBulk d + 1
  | .slice elems spare => uptoBulkAll elems + uptoBulkAll spare + 1
  | .agg parts => uptoBulkAll parts + 1
  | .iface _ d => uptoBulk d + 1
  | .map entries => uptoBulkEntries entries + 1
  | .held _ => 1
def uptoBulkAll {H : Type} : List (DataW H) → Nat
  | [] => 0
  | d :: r => uptoBulk d + uptoBulkAll r
def uptoBulkEntries {H : Type} : List (Lit × DataW H) → Nat
  | [] => 0
  | x :: r => uptoBulkEntry x + uptoBulkEntries r
def uptoBulkEntry {H : Type} : Lit × DataW H → Nat
  | (.string bytes, d) => bytes.length + uptoBulk d + 1
  | (_, d) => uptoBulk d + 1
 end
def uptoSmall : (H : Type) → List (DataW H) → Bool := fun _ ds => decide (uptoBulkAll ds ≤ 1048576)
def OpenSpec.upto (s : _root_.Go.ChangeSpec) : _root_.Go.OpenSpec := { _root_.Go.OpenSpec.ofChange s with cond := some uptoSmall }

/-- 'mailsacklaw03.FeProducts', WHERE WHAT IT READS IS OF BULK AT MOST 1048576: true; the input reads as it did. -/
def feProductsUptoRow : OpenClaim := { program := "ythlmphloalbhnaa", sum := "d96dd4358c797a0eae838dca3e4b6984c4e9f1f7c7858efbe6703e834ef4e2c3", func := "mailsack/mailsacklaw03.FeProducts", spec := "feProducts", inPlace := ["math/bits.Add64"], apart := false, narrowed := true }
def FeProductsUptoSaid : Prop := feProductsUptoRow.holds Try.pinned (OpenSpec.upto feProductsSpec)

/-- 'mailsacklaw03.FeSums', WHERE WHAT IT READS IS OF BULK AT MOST 1048576: true; the input reads as it did. -/
def feSumsUptoRow : OpenClaim := { program := "ythlmphloalbhnaa", sum := "d96dd4358c797a0eae838dca3e4b6984c4e9f1f7c7858efbe6703e834ef4e2c3", func := "mailsack/mailsacklaw03.FeSums", spec := "feSums", inPlace := ["math/bits.Add64"], apart := false, narrowed := true }
def FeSumsUptoSaid : Prop := feSumsUptoRow.holds Try.pinned (OpenSpec.upto feSumsSpec)

/-- 'mailsacklaw03.FeLaws', WHERE WHAT IT READS IS OF BULK AT MOST 1048576: true; the input reads as it did. -/
def feLawsUptoRow : OpenClaim := { program := "ythlmphloalbhnaa", sum := "d96dd4358c797a0eae838dca3e4b6984c4e9f1f7c7858efbe6703e834ef4e2c3", func := "mailsack/mailsacklaw03.FeLaws", spec := "feLaws", inPlace := ["math/bits.Add64"], apart := false, narrowed := true }
def FeLawsUptoSaid : Prop := feLawsUptoRow.holds Try.pinned (OpenSpec.upto feLawsSpec)

/-- 'mailsacklaw03.FeNegs', WHERE WHAT IT READS IS OF BULK AT MOST 1048576: true; the input reads as it did. -/
def feNegsUptoRow : OpenClaim := { program := "ythlmphloalbhnaa", sum := "d96dd4358c797a0eae838dca3e4b6984c4e9f1f7c7858efbe6703e834ef4e2c3", func := "mailsack/mailsacklaw03.FeNegs", spec := "feNegs", inPlace := ["math/bits.Add64"], apart := false, narrowed := true }
def FeNegsUptoSaid : Prop := feNegsUptoRow.holds Try.pinned (OpenSpec.upto feNegsSpec)

/-- 'mailsacklaw03.FeSwaps', WHERE WHAT IT READS IS OF BULK AT MOST 1048576: true; the input reads as it did. -/
def feSwapsUptoRow : OpenClaim := { program := "ythlmphloalbhnaa", sum := "d96dd4358c797a0eae838dca3e4b6984c4e9f1f7c7858efbe6703e834ef4e2c3", func := "mailsack/mailsacklaw03.FeSwaps", spec := "feSwaps", inPlace := ["math/bits.Add64"], apart := false, narrowed := true }
def FeSwapsUptoSaid : Prop := feSwapsUptoRow.holds Try.pinned (OpenSpec.upto feSwapsSpec)

/-- 'mailsacklaw03.FeParts', WHERE WHAT IT READS IS OF BULK AT MOST 1048576: true; the input reads as it did. -/
def fePartsUptoRow : OpenClaim := { program := "ythlmphloalbhnaa", sum := "d96dd4358c797a0eae838dca3e4b6984c4e9f1f7c7858efbe6703e834ef4e2c3", func := "mailsack/mailsacklaw03.FeParts", spec := "feParts", inPlace := ["math/bits.Add64"], apart := false, narrowed := true }
def FePartsUptoSaid : Prop := fePartsUptoRow.holds Try.pinned (OpenSpec.upto fePartsSpec)

/-- 'mailsacklaw03.FeInverts', WHERE WHAT IT READS IS OF BULK AT MOST 1048576: true; the input reads as it did. -/
def feInvertsUptoRow : OpenClaim := { program := "ythlmphloalbhnaa", sum := "d96dd4358c797a0eae838dca3e4b6984c4e9f1f7c7858efbe6703e834ef4e2c3", func := "mailsack/mailsacklaw03.FeInverts", spec := "feInverts", inPlace := ["math/bits.Add64"], apart := false, narrowed := true }
def FeInvertsUptoSaid : Prop := feInvertsUptoRow.holds Try.pinned (OpenSpec.upto feInvertsSpec)

/-- 'mailsacklaw04.LadderClamps', WHERE WHAT IT READS IS OF BULK AT MOST 1048576: true; the input reads as it did. -/
def ladderClampsUptoRow : OpenClaim := { program := "ythlmphloalbhnaa", sum := "d96dd4358c797a0eae838dca3e4b6984c4e9f1f7c7858efbe6703e834ef4e2c3", func := "mailsack/mailsacklaw04.LadderClamps", spec := "ladderClamps", inPlace := ["math/bits.Add64"], apart := false, narrowed := true }
def LadderClampsUptoSaid : Prop := ladderClampsUptoRow.holds Try.pinned (OpenSpec.upto ladderClampsSpec)

/-- 'mailsacklaw04.LadderPoints', WHERE WHAT IT READS IS OF BULK AT MOST 1048576: true; the input reads as it did. -/
def ladderPointsUptoRow : OpenClaim := { program := "ythlmphloalbhnaa", sum := "d96dd4358c797a0eae838dca3e4b6984c4e9f1f7c7858efbe6703e834ef4e2c3", func := "mailsack/mailsacklaw04.LadderPoints", spec := "ladderPoints", inPlace := ["math/bits.Add64"], apart := false, narrowed := true }
def LadderPointsUptoSaid : Prop := ladderPointsUptoRow.holds Try.pinned (OpenSpec.upto ladderPointsSpec)

/-- 'mailsacklaw04.LadderSame', WHERE WHAT IT READS IS OF BULK AT MOST 1048576: true; the input reads as it did. -/
def ladderSameUptoRow : OpenClaim := { program := "ythlmphloalbhnaa", sum := "d96dd4358c797a0eae838dca3e4b6984c4e9f1f7c7858efbe6703e834ef4e2c3", func := "mailsack/mailsacklaw04.LadderSame", spec := "ladderSame", inPlace := ["math/bits.Add64"], apart := false, narrowed := true }
def LadderSameUptoSaid : Prop := ladderSameUptoRow.holds Try.pinned (OpenSpec.upto ladderSameSpec)

/-- 'mailsacklaw04.LadderAgrees', WHERE WHAT IT READS IS OF BULK AT MOST 1048576: true; the input reads as it did. -/
def ladderAgreesUptoRow : OpenClaim := { program := "ythlmphloalbhnaa", sum := "d96dd4358c797a0eae838dca3e4b6984c4e9f1f7c7858efbe6703e834ef4e2c3", func := "mailsack/mailsacklaw04.LadderAgrees", spec := "ladderAgrees", inPlace := ["math/bits.Add64"], apart := false, narrowed := true }
def LadderAgreesUptoSaid : Prop := ladderAgreesUptoRow.holds Try.pinned (OpenSpec.upto ladderAgreesSpec)

/-- 'mailsacklaw04.LadderSmall', WHERE WHAT IT READS IS OF BULK AT MOST 1048576: true; the input reads as it did. -/
def ladderSmallUptoRow : OpenClaim := { program := "ythlmphloalbhnaa", sum := "d96dd4358c797a0eae838dca3e4b6984c4e9f1f7c7858efbe6703e834ef4e2c3", func := "mailsack/mailsacklaw04.LadderSmall", spec := "ladderSmall", inPlace := ["math/bits.Add64"], apart := false, narrowed := true }
def LadderSmallUptoSaid : Prop := ladderSmallUptoRow.holds Try.pinned (OpenSpec.upto ladderSmallSpec)

end Rows
end Go.Proofs.Ythlmphloalbhnaa
