/-
  No cell of these rows narrows 'for every input' (looked for: loops, veiled, ifaces, maps, wideKeys, modest, calm, conditions, laid).
  DERIVED. THE GIVEN ROWS OF THIS SEAT. 15 by the template 'for every input the law returns true; each argument reads behind the call as it read before'; 0 by the template 'total and deterministic' (their statements: YtkfacnegfkgcgaaTotals.lean).
  GIVEN WITH THE SEED: the statements are not yours to turn. If you find one false, say at which input.
  Laid BY PROGRAM, IN A SANDBOX (cutbox-rows.mjs): the forced cells as the released guide's own fill.sh prints them over the translation 600a8d4b69d9acba… (all of the seat's roots in one cut). By AI agents, Wed Nov 11 2026. No macro, syntax, notation, axiom, sorry.
-/
import Derived.Test.YtkfacnegfkgcgaaChecked
import GoSem.Claim
import GoSem.ClaimJoined
import GoSem.ClaimMapViews
import Derived.JoinedTies
import Derived.KernelRfl
namespace Go.Proofs.Ytkfacnegfkgcgaa
/- THE CELL 'sum', in the pinned program and in every row, IS THE sha256 OF THE DUMP (.gsa) THAT YtkfacnegfkgcgaaProg.lean LOADS. Nothing in Lean hashes anything: it is a label: what it is worth is what the hold of that sum in a sandbox is worth. -/
noncomputable def Try.pinned : Pinned := { name := "ytkfacnegfkgcgaa", sum := "600a8d4b69d9acbacb5f585cf1d4ae2be84907b805d90254cbe4a1ba88e5eb0a", checked := Try.checked }
namespace Rows
def none {H : Type} : Left H := { results := [], args := [] }

/-- 'mailsacklaw05.ChachaQuarters': WHATEVER THE INPUT: true; the input reads as it did. -/
def chachaQuartersSpec : ChangeSpec := { name := "chachaQuarters", fn := fun _ => fun
  | [d1, d2, d3, d4] => { results := [.lit (.bool true)], args := [d1, d2, d3, d4] }
  | _ => none }
def chachaQuartersRow : OpenClaim := { program := "ytkfacnegfkgcgaa", sum := "600a8d4b69d9acbacb5f585cf1d4ae2be84907b805d90254cbe4a1ba88e5eb0a", func := "mailsack/mailsacklaw05.ChachaQuarters", spec := "chachaQuarters", apart := false }
def ChachaQuartersSaid : Prop := chachaQuartersRow.holds Try.pinned (OpenSpec.ofChange chachaQuartersSpec)

/-- ITS FALSE NEIGHBOUR: 'it returns false'. Refute it at one input. -/
def chachaQuartersWrong : ChangeSpec := { name := "chachaQuarters", fn := fun _ => fun
  | [d1, d2, d3, d4] => { results := [.lit (.bool false)], args := [d1, d2, d3, d4] }
  | _ => none }
def ChachaQuartersWrongFalsely : Prop := chachaQuartersRow.holds Try.pinned (OpenSpec.ofChange chachaQuartersWrong)

/-- 'mailsacklaw05.ChachaBlocks': WHATEVER THE INPUT: true; the input reads as it did. -/
def chachaBlocksSpec : ChangeSpec := { name := "chachaBlocks", fn := fun _ => fun
  | [d1, d2, d3] => { results := [.lit (.bool true)], args := [d1, d2, d3] }
  | _ => none }
def chachaBlocksRow : OpenClaim := { program := "ytkfacnegfkgcgaa", sum := "600a8d4b69d9acbacb5f585cf1d4ae2be84907b805d90254cbe4a1ba88e5eb0a", func := "mailsack/mailsacklaw05.ChachaBlocks", spec := "chachaBlocks", apart := false }
def ChachaBlocksSaid : Prop := chachaBlocksRow.holds Try.pinned (OpenSpec.ofChange chachaBlocksSpec)

/-- ITS FALSE NEIGHBOUR: 'it returns false'. Refute it at one input. -/
def chachaBlocksWrong : ChangeSpec := { name := "chachaBlocks", fn := fun _ => fun
  | [d1, d2, d3] => { results := [.lit (.bool false)], args := [d1, d2, d3] }
  | _ => none }
def ChachaBlocksWrongFalsely : Prop := chachaBlocksRow.holds Try.pinned (OpenSpec.ofChange chachaBlocksWrong)

/-- 'mailsacklaw05.ChachaBack': WHATEVER THE INPUT: true; the input reads as it did. -/
def chachaBackSpec : ChangeSpec := { name := "chachaBack", fn := fun _ => fun
  | [d1, d2, d3, d4] => { results := [.lit (.bool true)], args := [d1, d2, d3, d4] }
  | _ => none }
def chachaBackRow : OpenClaim := { program := "ytkfacnegfkgcgaa", sum := "600a8d4b69d9acbacb5f585cf1d4ae2be84907b805d90254cbe4a1ba88e5eb0a", func := "mailsack/mailsacklaw05.ChachaBack", spec := "chachaBack", apart := false }
def ChachaBackSaid : Prop := chachaBackRow.holds Try.pinned (OpenSpec.ofChange chachaBackSpec)

/-- ITS FALSE NEIGHBOUR: 'it returns false'. Refute it at one input. -/
def chachaBackWrong : ChangeSpec := { name := "chachaBack", fn := fun _ => fun
  | [d1, d2, d3, d4] => { results := [.lit (.bool false)], args := [d1, d2, d3, d4] }
  | _ => none }
def ChachaBackWrongFalsely : Prop := chachaBackRow.holds Try.pinned (OpenSpec.ofChange chachaBackWrong)

/-- 'mailsacklaw05.ChachaTurns': WHATEVER THE INPUT: true; the input reads as it did. -/
def chachaTurnsSpec : ChangeSpec := { name := "chachaTurns", fn := fun _ => fun
  | [d1, d2, d3, d4] => { results := [.lit (.bool true)], args := [d1, d2, d3, d4] }
  | _ => none }
def chachaTurnsRow : OpenClaim := { program := "ytkfacnegfkgcgaa", sum := "600a8d4b69d9acbacb5f585cf1d4ae2be84907b805d90254cbe4a1ba88e5eb0a", func := "mailsack/mailsacklaw05.ChachaTurns", spec := "chachaTurns", apart := false }
def ChachaTurnsSaid : Prop := chachaTurnsRow.holds Try.pinned (OpenSpec.ofChange chachaTurnsSpec)

/-- ITS FALSE NEIGHBOUR: 'it returns false'. Refute it at one input. -/
def chachaTurnsWrong : ChangeSpec := { name := "chachaTurns", fn := fun _ => fun
  | [d1, d2, d3, d4] => { results := [.lit (.bool false)], args := [d1, d2, d3, d4] }
  | _ => none }
def ChachaTurnsWrongFalsely : Prop := chachaTurnsRow.holds Try.pinned (OpenSpec.ofChange chachaTurnsWrong)

/-- 'mailsacklaw05.ChachaTwice': WHATEVER THE INPUT: true; the input reads as it did. -/
def chachaTwiceSpec : ChangeSpec := { name := "chachaTwice", fn := fun _ => fun
  | [d1, d2, d3, d4] => { results := [.lit (.bool true)], args := [d1, d2, d3, d4] }
  | _ => none }
def chachaTwiceRow : OpenClaim := { program := "ytkfacnegfkgcgaa", sum := "600a8d4b69d9acbacb5f585cf1d4ae2be84907b805d90254cbe4a1ba88e5eb0a", func := "mailsack/mailsacklaw05.ChachaTwice", spec := "chachaTwice", apart := false }
def ChachaTwiceSaid : Prop := chachaTwiceRow.holds Try.pinned (OpenSpec.ofChange chachaTwiceSpec)

/-- ITS FALSE NEIGHBOUR: 'it returns false'. Refute it at one input. -/
def chachaTwiceWrong : ChangeSpec := { name := "chachaTwice", fn := fun _ => fun
  | [d1, d2, d3, d4] => { results := [.lit (.bool false)], args := [d1, d2, d3, d4] }
  | _ => none }
def ChachaTwiceWrongFalsely : Prop := chachaTwiceRow.holds Try.pinned (OpenSpec.ofChange chachaTwiceWrong)

/-- 'mailsacklaw05.ChachaPlain': WHATEVER THE INPUT: true; the input reads as it did. -/
def chachaPlainSpec : ChangeSpec := { name := "chachaPlain", fn := fun _ => fun
  | [d1, d2, d3, d4] => { results := [.lit (.bool true)], args := [d1, d2, d3, d4] }
  | _ => none }
def chachaPlainRow : OpenClaim := { program := "ytkfacnegfkgcgaa", sum := "600a8d4b69d9acbacb5f585cf1d4ae2be84907b805d90254cbe4a1ba88e5eb0a", func := "mailsack/mailsacklaw05.ChachaPlain", spec := "chachaPlain", apart := false }
def ChachaPlainSaid : Prop := chachaPlainRow.holds Try.pinned (OpenSpec.ofChange chachaPlainSpec)

/-- ITS FALSE NEIGHBOUR: 'it returns false'. Refute it at one input. -/
def chachaPlainWrong : ChangeSpec := { name := "chachaPlain", fn := fun _ => fun
  | [d1, d2, d3, d4] => { results := [.lit (.bool false)], args := [d1, d2, d3, d4] }
  | _ => none }
def ChachaPlainWrongFalsely : Prop := chachaPlainRow.holds Try.pinned (OpenSpec.ofChange chachaPlainWrong)

/-- 'mailsacklaw06.PolyTags': WHATEVER THE INPUT: true; the input reads as it did. -/
def polyTagsSpec : ChangeSpec := { name := "polyTags", fn := fun _ => fun
  | [d1, d2] => { results := [.lit (.bool true)], args := [d1, d2] }
  | _ => none }
def polyTagsRow : OpenClaim := { program := "ytkfacnegfkgcgaa", sum := "600a8d4b69d9acbacb5f585cf1d4ae2be84907b805d90254cbe4a1ba88e5eb0a", func := "mailsack/mailsacklaw06.PolyTags", spec := "polyTags", inPlace := ["math/bits.Add64"], apart := false }
def PolyTagsSaid : Prop := polyTagsRow.holds Try.pinned (OpenSpec.ofChange polyTagsSpec)

/-- ITS FALSE NEIGHBOUR: 'it returns false'. Refute it at one input. -/
def polyTagsWrong : ChangeSpec := { name := "polyTags", fn := fun _ => fun
  | [d1, d2] => { results := [.lit (.bool false)], args := [d1, d2] }
  | _ => none }
def PolyTagsWrongFalsely : Prop := polyTagsRow.holds Try.pinned (OpenSpec.ofChange polyTagsWrong)

/-- 'mailsacklaw06.PolyPlain': WHATEVER THE INPUT: true; the input reads as it did. -/
def polyPlainSpec : ChangeSpec := { name := "polyPlain", fn := fun _ => fun
  | [d1, d2] => { results := [.lit (.bool true)], args := [d1, d2] }
  | _ => none }
def polyPlainRow : OpenClaim := { program := "ytkfacnegfkgcgaa", sum := "600a8d4b69d9acbacb5f585cf1d4ae2be84907b805d90254cbe4a1ba88e5eb0a", func := "mailsack/mailsacklaw06.PolyPlain", spec := "polyPlain", inPlace := ["math/bits.Add64"], apart := false }
def PolyPlainSaid : Prop := polyPlainRow.holds Try.pinned (OpenSpec.ofChange polyPlainSpec)

/-- ITS FALSE NEIGHBOUR: 'it returns false'. Refute it at one input. -/
def polyPlainWrong : ChangeSpec := { name := "polyPlain", fn := fun _ => fun
  | [d1, d2] => { results := [.lit (.bool false)], args := [d1, d2] }
  | _ => none }
def PolyPlainWrongFalsely : Prop := polyPlainRow.holds Try.pinned (OpenSpec.ofChange polyPlainWrong)

/-- 'mailsacklaw06.PolyShifts': WHATEVER THE INPUT: true; the input reads as it did. -/
def polyShiftsSpec : ChangeSpec := { name := "polyShifts", fn := fun _ => fun
  | [d1, d2] => { results := [.lit (.bool true)], args := [d1, d2] }
  | _ => none }
def polyShiftsRow : OpenClaim := { program := "ytkfacnegfkgcgaa", sum := "600a8d4b69d9acbacb5f585cf1d4ae2be84907b805d90254cbe4a1ba88e5eb0a", func := "mailsack/mailsacklaw06.PolyShifts", spec := "polyShifts", inPlace := ["math/bits.Add64"], apart := false }
def PolyShiftsSaid : Prop := polyShiftsRow.holds Try.pinned (OpenSpec.ofChange polyShiftsSpec)

/-- ITS FALSE NEIGHBOUR: 'it returns false'. Refute it at one input. -/
def polyShiftsWrong : ChangeSpec := { name := "polyShifts", fn := fun _ => fun
  | [d1, d2] => { results := [.lit (.bool false)], args := [d1, d2] }
  | _ => none }
def PolyShiftsWrongFalsely : Prop := polyShiftsRow.holds Try.pinned (OpenSpec.ofChange polyShiftsWrong)

/-- 'mailsacklaw06.PolySmall': WHATEVER THE INPUT: true; the input reads as it did. -/
def polySmallSpec : ChangeSpec := { name := "polySmall", fn := fun _ => fun
  | [d] => { results := [.lit (.bool true)], args := [d] }
  | _ => none }
def polySmallRow : OpenClaim := { program := "ytkfacnegfkgcgaa", sum := "600a8d4b69d9acbacb5f585cf1d4ae2be84907b805d90254cbe4a1ba88e5eb0a", func := "mailsack/mailsacklaw06.PolySmall", spec := "polySmall", inPlace := ["math/bits.Add64"], apart := false }
def PolySmallSaid : Prop := polySmallRow.holds Try.pinned (OpenSpec.ofChange polySmallSpec)

/-- ITS FALSE NEIGHBOUR: 'it returns false'. Refute it at one input. -/
def polySmallWrong : ChangeSpec := { name := "polySmall", fn := fun _ => fun
  | [d] => { results := [.lit (.bool false)], args := [d] }
  | _ => none }
def PolySmallWrongFalsely : Prop := polySmallRow.holds Try.pinned (OpenSpec.ofChange polySmallWrong)

/-- 'mailsacklaw07.AeadSeals': WHATEVER THE INPUT: true; the input reads as it did. -/
def aeadSealsSpec : ChangeSpec := { name := "aeadSeals", fn := fun _ => fun
  | [d1, d2, d3, d4] => { results := [.lit (.bool true)], args := [d1, d2, d3, d4] }
  | _ => none }
def aeadSealsRow : OpenClaim := { program := "ytkfacnegfkgcgaa", sum := "600a8d4b69d9acbacb5f585cf1d4ae2be84907b805d90254cbe4a1ba88e5eb0a", func := "mailsack/mailsacklaw07.AeadSeals", spec := "aeadSeals", inPlace := ["math/bits.Add64"], apart := false }
def AeadSealsSaid : Prop := aeadSealsRow.holds Try.pinned (OpenSpec.ofChange aeadSealsSpec)

/-- ITS FALSE NEIGHBOUR: 'it returns false'. Refute it at one input. -/
def aeadSealsWrong : ChangeSpec := { name := "aeadSeals", fn := fun _ => fun
  | [d1, d2, d3, d4] => { results := [.lit (.bool false)], args := [d1, d2, d3, d4] }
  | _ => none }
def AeadSealsWrongFalsely : Prop := aeadSealsRow.holds Try.pinned (OpenSpec.ofChange aeadSealsWrong)

/-- 'mailsacklaw07.AeadOpens': WHATEVER THE INPUT: true; the input reads as it did. -/
def aeadOpensSpec : ChangeSpec := { name := "aeadOpens", fn := fun _ => fun
  | [d1, d2, d3, d4] => { results := [.lit (.bool true)], args := [d1, d2, d3, d4] }
  | _ => none }
def aeadOpensRow : OpenClaim := { program := "ytkfacnegfkgcgaa", sum := "600a8d4b69d9acbacb5f585cf1d4ae2be84907b805d90254cbe4a1ba88e5eb0a", func := "mailsack/mailsacklaw07.AeadOpens", spec := "aeadOpens", inPlace := ["math/bits.Add64"], apart := false }
def AeadOpensSaid : Prop := aeadOpensRow.holds Try.pinned (OpenSpec.ofChange aeadOpensSpec)

/-- ITS FALSE NEIGHBOUR: 'it returns false'. Refute it at one input. -/
def aeadOpensWrong : ChangeSpec := { name := "aeadOpens", fn := fun _ => fun
  | [d1, d2, d3, d4] => { results := [.lit (.bool false)], args := [d1, d2, d3, d4] }
  | _ => none }
def AeadOpensWrongFalsely : Prop := aeadOpensRow.holds Try.pinned (OpenSpec.ofChange aeadOpensWrong)

/-- 'mailsacklaw07.AeadBack': WHATEVER THE INPUT: true; the input reads as it did. -/
def aeadBackSpec : ChangeSpec := { name := "aeadBack", fn := fun _ => fun
  | [d1, d2, d3, d4, d5, d6] => { results := [.lit (.bool true)], args := [d1, d2, d3, d4, d5, d6] }
  | _ => none }
def aeadBackRow : OpenClaim := { program := "ytkfacnegfkgcgaa", sum := "600a8d4b69d9acbacb5f585cf1d4ae2be84907b805d90254cbe4a1ba88e5eb0a", func := "mailsack/mailsacklaw07.AeadBack", spec := "aeadBack", inPlace := ["math/bits.Add64"], apart := false }
def AeadBackSaid : Prop := aeadBackRow.holds Try.pinned (OpenSpec.ofChange aeadBackSpec)

/-- ITS FALSE NEIGHBOUR: 'it returns false'. Refute it at one input. -/
def aeadBackWrong : ChangeSpec := { name := "aeadBack", fn := fun _ => fun
  | [d1, d2, d3, d4, d5, d6] => { results := [.lit (.bool false)], args := [d1, d2, d3, d4, d5, d6] }
  | _ => none }
def AeadBackWrongFalsely : Prop := aeadBackRow.holds Try.pinned (OpenSpec.ofChange aeadBackWrong)

/-- 'mailsacklaw07.AeadAgain': WHATEVER THE INPUT: true; the input reads as it did. -/
def aeadAgainSpec : ChangeSpec := { name := "aeadAgain", fn := fun _ => fun
  | [d1, d2, d3, d4] => { results := [.lit (.bool true)], args := [d1, d2, d3, d4] }
  | _ => none }
def aeadAgainRow : OpenClaim := { program := "ytkfacnegfkgcgaa", sum := "600a8d4b69d9acbacb5f585cf1d4ae2be84907b805d90254cbe4a1ba88e5eb0a", func := "mailsack/mailsacklaw07.AeadAgain", spec := "aeadAgain", inPlace := ["math/bits.Add64"], apart := false }
def AeadAgainSaid : Prop := aeadAgainRow.holds Try.pinned (OpenSpec.ofChange aeadAgainSpec)

/-- ITS FALSE NEIGHBOUR: 'it returns false'. Refute it at one input. -/
def aeadAgainWrong : ChangeSpec := { name := "aeadAgain", fn := fun _ => fun
  | [d1, d2, d3, d4] => { results := [.lit (.bool false)], args := [d1, d2, d3, d4] }
  | _ => none }
def AeadAgainWrongFalsely : Prop := aeadAgainRow.holds Try.pinned (OpenSpec.ofChange aeadAgainWrong)

/-- 'mailsacklaw07.AeadStream': WHATEVER THE INPUT: true; the input reads as it did. -/
def aeadStreamSpec : ChangeSpec := { name := "aeadStream", fn := fun _ => fun
  | [d1, d2, d3, d4, d5] => { results := [.lit (.bool true)], args := [d1, d2, d3, d4, d5] }
  | _ => none }
def aeadStreamRow : OpenClaim := { program := "ytkfacnegfkgcgaa", sum := "600a8d4b69d9acbacb5f585cf1d4ae2be84907b805d90254cbe4a1ba88e5eb0a", func := "mailsack/mailsacklaw07.AeadStream", spec := "aeadStream", inPlace := ["math/bits.Add64"], apart := false }
def AeadStreamSaid : Prop := aeadStreamRow.holds Try.pinned (OpenSpec.ofChange aeadStreamSpec)

/-- ITS FALSE NEIGHBOUR: 'it returns false'. Refute it at one input. -/
def aeadStreamWrong : ChangeSpec := { name := "aeadStream", fn := fun _ => fun
  | [d1, d2, d3, d4, d5] => { results := [.lit (.bool false)], args := [d1, d2, d3, d4, d5] }
  | _ => none }
def AeadStreamWrongFalsely : Prop := aeadStreamRow.holds Try.pinned (OpenSpec.ofChange aeadStreamWrong)

/- THE SECOND FORM. 'bulk': how many values and letters a reading holds, each counted each time it is reached (what is shared counts as often as it is met; a slice's spare places count too). A statement '..UptoSaid' is the law's where the arguments, and the package variables that the reading takes, are together of bulk at most 1048576: NARROWER than '..Said'. Prove '..Said' where nothing that the law and all that it calls make is longer than what came in: it says more and counts as full. Else prove '..UptoSaid'. A law counts once. -/
mutual
def uptoBulk {H : Type} : DataW H → Nat
  | .lit (.string bytes) => bytes.length + 1
  | .lit _ => 1
  | .nil => 1
  | .ptr d => uptoBulk d + 1
  | .slice elems spare => uptoBulkAll elems + uptoBulkAll spare + 1
  | .agg parts => uptoBulkAll parts + 1
  | .iface _ d => uptoBulk d + 1
  | .map entries => uptoBulkEntries entries + 1
  | .held _ => 1
def uptoBulkAll {H : Type} : List (DataW H) → Nat
  | [] => 0
  | d :: r => uptoBulk d + uptoBulkAll r
def uptoBulkEntries {H : Type} : List (Lit × DataW H) → Nat
  | [] => 0
  | x :: r => uptoBulkEntry x + uptoBulkEntries r
def uptoBulkEntry {H : Type} : Lit × DataW H → Nat
  | (.string bytes, d) => bytes.length + uptoBulk d + 1
  | (_, d) => uptoBulk d + 1
 end
def uptoSmall : (H : Type) → List (DataW H) → Bool := fun _ ds => decide (uptoBulkAll ds ≤ 1048576)
def OpenSpec.upto (s : _root_.Go.ChangeSpec) : _root_.Go.OpenSpec := { _root_.Go.OpenSpec.ofChange s with cond := some uptoSmall }

/-- 'mailsacklaw05.ChachaQuarters', WHERE WHAT IT READS IS OF BULK AT MOST 1048576: true; the input reads as it did. -/
def chachaQuartersUptoRow : OpenClaim := { program := "ytkfacnegfkgcgaa", sum := "600a8d4b69d9acbacb5f585cf1d4ae2be84907b805d90254cbe4a1ba88e5eb0a", func := "mailsack/mailsacklaw05.ChachaQuarters", spec := "chachaQuarters", apart := false, narrowed := true }
def ChachaQuartersUptoSaid : Prop := chachaQuartersUptoRow.holds Try.pinned (OpenSpec.upto chachaQuartersSpec)

/-- 'mailsacklaw05.ChachaBlocks', WHERE WHAT IT READS IS OF BULK AT MOST 1048576: true; the input reads as it did. -/
def chachaBlocksUptoRow : OpenClaim := { program := "ytkfacnegfkgcgaa", sum := "600a8d4b69d9acbacb5f585cf1d4ae2be84907b805d90254cbe4a1ba88e5eb0a", func := "mailsack/mailsacklaw05.ChachaBlocks", spec := "chachaBlocks", apart := false, narrowed := true }
def ChachaBlocksUptoSaid : Prop := chachaBlocksUptoRow.holds Try.pinned (OpenSpec.upto chachaBlocksSpec)

/-- 'mailsacklaw05.ChachaBack', WHERE WHAT IT READS IS OF BULK AT MOST 1048576: true; the input reads as it did. -/
def chachaBackUptoRow : OpenClaim := { program := "ytkfacnegfkgcgaa", sum := "600a8d4b69d9acbacb5f585cf1d4ae2be84907b805d90254cbe4a1ba88e5eb0a", func := "mailsack/mailsacklaw05.ChachaBack", spec := "chachaBack", apart := false, narrowed := true }
def ChachaBackUptoSaid : Prop := chachaBackUptoRow.holds Try.pinned (OpenSpec.upto chachaBackSpec)

/-- 'mailsacklaw05.ChachaTurns', WHERE WHAT IT READS IS OF BULK AT MOST 1048576: true; the input reads as it did. -/
def chachaTurnsUptoRow : OpenClaim := { program := "ytkfacnegfkgcgaa", sum := "600a8d4b69d9acbacb5f585cf1d4ae2be84907b805d90254cbe4a1ba88e5eb0a", func := "mailsack/mailsacklaw05.ChachaTurns", spec := "chachaTurns", apart := false, narrowed := true }
def ChachaTurnsUptoSaid : Prop := chachaTurnsUptoRow.holds Try.pinned (OpenSpec.upto chachaTurnsSpec)

/-- 'mailsacklaw05.ChachaTwice', WHERE WHAT IT READS IS OF BULK AT MOST 1048576: true; the input reads as it did. -/
def chachaTwiceUptoRow : OpenClaim := { program := "ytkfacnegfkgcgaa", sum := "600a8d4b69d9acbacb5f585cf1d4ae2be84907b805d90254cbe4a1ba88e5eb0a", func := "mailsack/mailsacklaw05.ChachaTwice", spec := "chachaTwice", apart := false, narrowed := true }
def ChachaTwiceUptoSaid : Prop := chachaTwiceUptoRow.holds Try.pinned (OpenSpec.upto chachaTwiceSpec)

/-- 'mailsacklaw05.ChachaPlain', WHERE WHAT IT READS IS OF BULK AT MOST 1048576: true; the input reads as it did. -/
def chachaPlainUptoRow : OpenClaim := { program := "ytkfacnegfkgcgaa", sum := "600a8d4b69d9acbacb5f585cf1d4ae2be84907b805d90254cbe4a1ba88e5eb0a", func := "mailsack/mailsacklaw05.ChachaPlain", spec := "chachaPlain", apart := false, narrowed := true }
def ChachaPlainUptoSaid : Prop := chachaPlainUptoRow.holds Try.pinned (OpenSpec.upto chachaPlainSpec)

/-- 'mailsacklaw06.PolyTags', WHERE WHAT IT READS IS OF BULK AT MOST 1048576: true; the input reads as it did. -/
def polyTagsUptoRow : OpenClaim := { program := "ytkfacnegfkgcgaa", sum := "600a8d4b69d9acbacb5f585cf1d4ae2be84907b805d90254cbe4a1ba88e5eb0a", func := "mailsack/mailsacklaw06.PolyTags", spec := "polyTags", inPlace := ["math/bits.Add64"], apart := false, narrowed := true }
def PolyTagsUptoSaid : Prop := polyTagsUptoRow.holds Try.pinned (OpenSpec.upto polyTagsSpec)

/-- 'mailsacklaw06.PolyPlain', WHERE WHAT IT READS IS OF BULK AT MOST 1048576: true; the input reads as it did. -/
def polyPlainUptoRow : OpenClaim := { program := "ytkfacnegfkgcgaa", sum := "600a8d4b69d9acbacb5f585cf1d4ae2be84907b805d90254cbe4a1ba88e5eb0a", func := "mailsack/mailsacklaw06.PolyPlain", spec := "polyPlain", inPlace := ["math/bits.Add64"], apart := false, narrowed := true }
def PolyPlainUptoSaid : Prop := polyPlainUptoRow.holds Try.pinned (OpenSpec.upto polyPlainSpec)

/-- 'mailsacklaw06.PolyShifts', WHERE WHAT IT READS IS OF BULK AT MOST 1048576: true; the input reads as it did. -/
def polyShiftsUptoRow : OpenClaim := { program := "ytkfacnegfkgcgaa", sum := "600a8d4b69d9acbacb5f585cf1d4ae2be84907b805d90254cbe4a1ba88e5eb0a", func := "mailsack/mailsacklaw06.PolyShifts", spec := "polyShifts", inPlace := ["math/bits.Add64"], apart := false, narrowed := true }
def PolyShiftsUptoSaid : Prop := polyShiftsUptoRow.holds Try.pinned (OpenSpec.upto polyShiftsSpec)

/-- 'mailsacklaw06.PolySmall', WHERE WHAT IT READS IS OF BULK AT MOST 1048576: true; the input reads as it did. -/
def polySmallUptoRow : OpenClaim := { program := "ytkfacnegfkgcgaa", sum := "600a8d4b69d9acbacb5f585cf1d4ae2be84907b805d90254cbe4a1ba88e5eb0a", func := "mailsack/mailsacklaw06.PolySmall", spec := "polySmall", inPlace := ["math/bits.Add64"], apart := false, narrowed := true }
def PolySmallUptoSaid : Prop := polySmallUptoRow.holds Try.pinned (OpenSpec.upto polySmallSpec)

/-- 'mailsacklaw07.AeadSeals', WHERE WHAT IT READS IS OF BULK AT MOST 1048576: true; the input reads as it did. -/
def aeadSealsUptoRow : OpenClaim := { program := "ytkfacnegfkgcgaa", sum := "600a8d4b69d9acbacb5f585cf1d4ae2be84907b805d90254cbe4a1ba88e5eb0a", func := "mailsack/mailsacklaw07.AeadSeals", spec := "aeadSeals", inPlace := ["math/bits.Add64"], apart := false, narrowed := true }
def AeadSealsUptoSaid : Prop := aeadSealsUptoRow.holds Try.pinned (OpenSpec.upto aeadSealsSpec)

/-- 'mailsacklaw07.AeadOpens', WHERE WHAT IT READS IS OF BULK AT MOST 1048576: true; the input reads as it did. -/
def aeadOpensUptoRow : OpenClaim := { program := "ytkfacnegfkgcgaa", sum := "600a8d4b69d9acbacb5f585cf1d4ae2be84907b805d90254cbe4a1ba88e5eb0a", func := "mailsack/mailsacklaw07.AeadOpens", spec := "aeadOpens", inPlace := ["math/bits.Add64"], apart := false, narrowed := true }
def AeadOpensUptoSaid : Prop := aeadOpensUptoRow.holds Try.pinned (OpenSpec.upto aeadOpensSpec)

/-- 'mailsacklaw07.AeadBack', WHERE WHAT IT READS IS OF BULK AT MOST 1048576: true; the input reads as it did. -/
def aeadBackUptoRow : OpenClaim := { program := "ytkfacnegfkgcgaa", sum := "600a8d4b69d9acbacb5f585cf1d4ae2be84907b805d90254cbe4a1ba88e5eb0a", func := "mailsack/mailsacklaw07.AeadBack", spec := "aeadBack", inPlace := ["math/bits.Add64"], apart := false, narrowed := true }
def AeadBackUptoSaid : Prop := aeadBackUptoRow.holds Try.pinned (OpenSpec.upto aeadBackSpec)

/-- 'mailsacklaw07.AeadAgain', WHERE WHAT IT READS IS OF BULK AT MOST 1048576: true; the input reads as it did. -/
def aeadAgainUptoRow : OpenClaim := { program := "ytkfacnegfkgcgaa", sum := "600a8d4b69d9acbacb5f585cf1d4ae2be84907b805d90254cbe4a1ba88e5eb0a", func := "mailsack/mailsacklaw07.AeadAgain", spec := "aeadAgain", inPlace := ["math/bits.Add64"], apart := false, narrowed := true }
def AeadAgainUptoSaid : Prop := aeadAgainUptoRow.holds Try.pinned (OpenSpec.upto aeadAgainSpec)

/-- 'mailsacklaw07.AeadStream', WHERE WHAT IT READS IS OF BULK AT MOST 1048576: true; the input reads as it did. -/
def aeadStreamUptoRow : OpenClaim := { program := "ytkfacnegfkgcgaa", sum := "600a8d4b69d9acbacb5f585cf1d4ae2be84907b805d90254cbe4a1ba88e5eb0a", func := "mailsack/mailsacklaw07.AeadStream", spec := "aeadStream", inPlace := ["math/bits.Add64"], apart := false, narrowed := true }
def AeadStreamUptoSaid : Prop := aeadStreamUptoRow.holds Try.pinned (OpenSpec.upto aeadStreamSpec)

end Rows
end Go.Proofs.Ytkfacnegfkgcgaa
