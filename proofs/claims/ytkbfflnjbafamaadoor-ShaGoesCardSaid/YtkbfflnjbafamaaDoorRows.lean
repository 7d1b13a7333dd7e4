/-
  NARROWER THAN 'FOR EVERY INPUT', by the rows' own cells (each row's printed sentence says how): ShaSums: laid · ShaBlocks: laid · ShaHex: laid · ShaGoes: laid · ShaDigits: laid · MacSums: laid · MacSame: laid · MacLong: laid · MacSymm: laid · MacDraws: laid · MacPasswords: laid · MacRounds: laid · MacFirst: laid.
  DERIVED. THE GIVEN ROWS OF THIS SEAT. 13 by the template 'for every input the law returns true; each argument reads behind the call as it read before'; 0 by the template 'total and deterministic' (their statements: YtkbfflnjbafamaaDoorTotals.lean).
  GIVEN WITH THE SEED: the statements are not yours to turn. If you find one false, say at which input.
  Laid BY PROGRAM, IN A SANDBOX (cutbox-rows.mjs): the forced cells as the released guide's own fill.sh prints them over the translation 4cd107277fb49a26… (all of the seat's roots in one cut). By AI agents, Wed Nov 11 2026. No macro, syntax, notation, axiom, sorry.
-/
import Derived.Test.YtkbfflnjbafamaaDoorChecked
import GoSem.Claim
import GoSem.ClaimJoined
import GoSem.ClaimMapViews
import Derived.JoinedTies
import Derived.KernelRfl
namespace Go.Proofs.YtkbfflnjbafamaaDoor
/- THE CELL 'sum', in the pinned program and in every row, IS THE sha256 OF THE DUMP (.gsa) THAT YtkbfflnjbafamaaDoorProg.lean LOADS. Nothing in Lean hashes anything: it is a label: what it is worth is what the hold of that sum in a sandbox is worth. -/
noncomputable def Tryd.pinned : Pinned := { name := "ytkbfflnjbafamaadoor", sum := "4cd107277fb49a2681c850bf25e4699fff4e1593e312553c3b0e7cb1dd6306d3", checked := Tryd.checked }
namespace Rows
def none {H : Type} : Left H := { results := [], args := [] }

/- WHAT THE LISTED PACKAGE-LEVEL VARIABLES READ AS WHEN THE CALL BEGINS. Each datum BY PROGRAM (the guide's laid-datum.mjs) off the statement by which the dump's own 'gosem.cut.vars' lays the variable. In a bare row this is a premise. The card (YtkbfflnjbafamaaDoorCards.lean) ties it to the program's text. -/
def laid_mailsack_sha_initial {H : Type} : DataW H := .agg [.lit (.int .u32 1779033703), .lit (.int .u32 3144134277), .lit (.int .u32 1013904242), .lit (.int .u32 2773480762), .lit (.int .u32 1359893119), .lit (.int .u32 2600822924), .lit (.int .u32 528734635), .lit (.int .u32 1541459225)]
def laid_mailsack_sha_rounds {H : Type} : DataW H := .agg [.lit (.int .u32 1116352408), .lit (.int .u32 1899447441), .lit (.int .u32 3049323471), .lit (.int .u32 3921009573), .lit (.int .u32 961987163), .lit (.int .u32 1508970993), .lit (.int .u32 2453635748), .lit (.int .u32 2870763221), .lit (.int .u32 3624381080), .lit (.int .u32 310598401), .lit (.int .u32 607225278), .lit (.int .u32 1426881987), .lit (.int .u32 1925078388), .lit (.int .u32 2162078206), .lit (.int .u32 2614888103), .lit (.int .u32 3248222580), .lit (.int .u32 3835390401), .lit (.int .u32 4022224774), .lit (.int .u32 264347078), .lit (.int .u32 604807628), .lit (.int .u32 770255983), .lit (.int .u32 1249150122), .lit (.int .u32 1555081692), .lit (.int .u32 1996064986), .lit (.int .u32 2554220882), .lit (.int .u32 2821834349), .lit (.int .u32 2952996808), .lit (.int .u32 3210313671), .lit (.int .u32 3336571891), .lit (.int .u32 3584528711), .lit (.int .u32 113926993), .lit (.int .u32 338241895), .lit (.int .u32 666307205), .lit (.int .u32 773529912), .lit (.int .u32 1294757372), .lit (.int .u32 1396182291), .lit (.int .u32 1695183700), .lit (.int .u32 1986661051), .lit (.int .u32 2177026350), .lit (.int .u32 2456956037), .lit (.int .u32 2730485921), .lit (.int .u32 2820302411), .lit (.int .u32 3259730800), .lit (.int .u32 3345764771), .lit (.int .u32 3516065817), .lit (.int .u32 3600352804), .lit (.int .u32 4094571909), .lit (.int .u32 275423344), .lit (.int .u32 430227734), .lit (.int .u32 506948616), .lit (.int .u32 659060556), .lit (.int .u32 883997877), .lit (.int .u32 958139571), .lit (.int .u32 1322822218), .lit (.int .u32 1537002063), .lit (.int .u32 1747873779), .lit (.int .u32 1955562222), .lit (.int .u32 2024104815), .lit (.int .u32 2227730452), .lit (.int .u32 2361852424), .lit (.int .u32 2428436474), .lit (.int .u32 2756734187), .lit (.int .u32 3204031479), .lit (.int .u32 3329325298)]

/-- 'mailsacklaw01.ShaSums': WHATEVER THE INPUT: true; the input reads as it did. -/
def shaSumsSpec : ChangeSpec := { name := "shaSums", fn := fun _ => fun
  | [d] => { results := [.lit (.bool true)], args := [d] }
  | _ => none }
def shaSumsRow : OpenClaim := { program := "ytkbfflnjbafamaadoor", sum := "4cd107277fb49a2681c850bf25e4699fff4e1593e312553c3b0e7cb1dd6306d3", func := "mailsack/mailsacklaw01.ShaSums", spec := "shaSums", named := ["mailsack/sha.initial", "mailsack/sha.rounds"], apart := false, laid := [("mailsack/sha.initial", laid_mailsack_sha_initial), ("mailsack/sha.rounds", laid_mailsack_sha_rounds)] }
def ShaSumsSaid : Prop := shaSumsRow.holds Tryd.pinned (OpenSpec.ofChange shaSumsSpec)

/-- ITS FALSE NEIGHBOUR: 'it returns false'. Refute it at one input. -/
def shaSumsWrong : ChangeSpec := { name := "shaSums", fn := fun _ => fun
  | [d] => { results := [.lit (.bool false)], args := [d] }
  | _ => none }
def ShaSumsWrongFalsely : Prop := shaSumsRow.holds Tryd.pinned (OpenSpec.ofChange shaSumsWrong)

/-- 'mailsacklaw01.ShaBlocks': WHATEVER THE INPUT: true; the input reads as it did. -/
def shaBlocksSpec : ChangeSpec := { name := "shaBlocks", fn := fun _ => fun
  | [d1, d2] => { results := [.lit (.bool true)], args := [d1, d2] }
  | _ => none }
def shaBlocksRow : OpenClaim := { program := "ytkbfflnjbafamaadoor", sum := "4cd107277fb49a2681c850bf25e4699fff4e1593e312553c3b0e7cb1dd6306d3", func := "mailsack/mailsacklaw01.ShaBlocks", spec := "shaBlocks", named := ["mailsack/sha.initial", "mailsack/sha.rounds"], apart := false, laid := [("mailsack/sha.initial", laid_mailsack_sha_initial), ("mailsack/sha.rounds", laid_mailsack_sha_rounds)] }
def ShaBlocksSaid : Prop := shaBlocksRow.holds Tryd.pinned (OpenSpec.ofChange shaBlocksSpec)

/-- ITS FALSE NEIGHBOUR: 'it returns false'. Refute it at one input. -/
def shaBlocksWrong : ChangeSpec := { name := "shaBlocks", fn := fun _ => fun
  | [d1, d2] => { results := [.lit (.bool false)], args := [d1, d2] }
  | _ => none }
def ShaBlocksWrongFalsely : Prop := shaBlocksRow.holds Tryd.pinned (OpenSpec.ofChange shaBlocksWrong)

/-- 'mailsacklaw01.ShaHex': WHATEVER THE INPUT: true; the input reads as it did. -/
def shaHexSpec : ChangeSpec := { name := "shaHex", fn := fun _ => fun
  | [d] => { results := [.lit (.bool true)], args := [d] }
  | _ => none }
def shaHexRow : OpenClaim := { program := "ytkbfflnjbafamaadoor", sum := "4cd107277fb49a2681c850bf25e4699fff4e1593e312553c3b0e7cb1dd6306d3", func := "mailsack/mailsacklaw01.ShaHex", spec := "shaHex", named := ["mailsack/sha.initial", "mailsack/sha.rounds"], apart := false, laid := [("mailsack/sha.initial", laid_mailsack_sha_initial), ("mailsack/sha.rounds", laid_mailsack_sha_rounds)] }
def ShaHexSaid : Prop := shaHexRow.holds Tryd.pinned (OpenSpec.ofChange shaHexSpec)

/-- ITS FALSE NEIGHBOUR: 'it returns false'. Refute it at one input. -/
def shaHexWrong : ChangeSpec := { name := "shaHex", fn := fun _ => fun
  | [d] => { results := [.lit (.bool false)], args := [d] }
  | _ => none }
def ShaHexWrongFalsely : Prop := shaHexRow.holds Tryd.pinned (OpenSpec.ofChange shaHexWrong)

/-- 'mailsacklaw01.ShaGoes': WHATEVER THE INPUT: true; the input reads as it did. -/
def shaGoesSpec : ChangeSpec := { name := "shaGoes", fn := fun _ => fun
  | [d] => { results := [.lit (.bool true)], args := [d] }
  | _ => none }
def shaGoesRow : OpenClaim := { program := "ytkbfflnjbafamaadoor", sum := "4cd107277fb49a2681c850bf25e4699fff4e1593e312553c3b0e7cb1dd6306d3", func := "mailsack/mailsacklaw01.ShaGoes", spec := "shaGoes", named := ["mailsack/sha.initial", "mailsack/sha.rounds"], apart := false, laid := [("mailsack/sha.initial", laid_mailsack_sha_initial), ("mailsack/sha.rounds", laid_mailsack_sha_rounds)] }
def ShaGoesSaid : Prop := shaGoesRow.holds Tryd.pinned (OpenSpec.ofChange shaGoesSpec)

/-- ITS FALSE NEIGHBOUR: 'it returns false'. Refute it at one input. -/
def shaGoesWrong : ChangeSpec := { name := "shaGoes", fn := fun _ => fun
  | [d] => { results := [.lit (.bool false)], args := [d] }
  | _ => none }
def ShaGoesWrongFalsely : Prop := shaGoesRow.holds Tryd.pinned (OpenSpec.ofChange shaGoesWrong)

/-- 'mailsacklaw01.ShaDigits': WHATEVER THE INPUT: true; the input reads as it did. -/
def shaDigitsSpec : ChangeSpec := { name := "shaDigits", fn := fun _ => fun
  | [d] => { results := [.lit (.bool true)], args := [d] }
  | _ => none }
def shaDigitsRow : OpenClaim := { program := "ytkbfflnjbafamaadoor", sum := "4cd107277fb49a2681c850bf25e4699fff4e1593e312553c3b0e7cb1dd6306d3", func := "mailsack/mailsacklaw01.ShaDigits", spec := "shaDigits", named := ["mailsack/sha.initial", "mailsack/sha.rounds"], apart := false, laid := [("mailsack/sha.initial", laid_mailsack_sha_initial), ("mailsack/sha.rounds", laid_mailsack_sha_rounds)] }
def ShaDigitsSaid : Prop := shaDigitsRow.holds Tryd.pinned (OpenSpec.ofChange shaDigitsSpec)

/-- ITS FALSE NEIGHBOUR: 'it returns false'. Refute it at one input. -/
def shaDigitsWrong : ChangeSpec := { name := "shaDigits", fn := fun _ => fun
  | [d] => { results := [.lit (.bool false)], args := [d] }
  | _ => none }
def ShaDigitsWrongFalsely : Prop := shaDigitsRow.holds Tryd.pinned (OpenSpec.ofChange shaDigitsWrong)

/-- 'mailsacklaw02.MacSums': WHATEVER THE INPUT: true; the input reads as it did. -/
def macSumsSpec : ChangeSpec := { name := "macSums", fn := fun _ => fun
  | [d1, d2] => { results := [.lit (.bool true)], args := [d1, d2] }
  | _ => none }
def macSumsRow : OpenClaim := { program := "ytkbfflnjbafamaadoor", sum := "4cd107277fb49a2681c850bf25e4699fff4e1593e312553c3b0e7cb1dd6306d3", func := "mailsack/mailsacklaw02.MacSums", spec := "macSums", named := ["mailsack/sha.initial", "mailsack/sha.rounds"], apart := false, laid := [("mailsack/sha.initial", laid_mailsack_sha_initial), ("mailsack/sha.rounds", laid_mailsack_sha_rounds)] }
def MacSumsSaid : Prop := macSumsRow.holds Tryd.pinned (OpenSpec.ofChange macSumsSpec)

/-- ITS FALSE NEIGHBOUR: 'it returns false'. Refute it at one input. -/
def macSumsWrong : ChangeSpec := { name := "macSums", fn := fun _ => fun
  | [d1, d2] => { results := [.lit (.bool false)], args := [d1, d2] }
  | _ => none }
def MacSumsWrongFalsely : Prop := macSumsRow.holds Tryd.pinned (OpenSpec.ofChange macSumsWrong)

/-- 'mailsacklaw02.MacSame': WHATEVER THE INPUT: true; the input reads as it did. -/
def macSameSpec : ChangeSpec := { name := "macSame", fn := fun _ => fun
  | [d1, d2] => { results := [.lit (.bool true)], args := [d1, d2] }
  | _ => none }
def macSameRow : OpenClaim := { program := "ytkbfflnjbafamaadoor", sum := "4cd107277fb49a2681c850bf25e4699fff4e1593e312553c3b0e7cb1dd6306d3", func := "mailsack/mailsacklaw02.MacSame", spec := "macSame", named := ["mailsack/sha.initial", "mailsack/sha.rounds"], apart := false, laid := [("mailsack/sha.initial", laid_mailsack_sha_initial), ("mailsack/sha.rounds", laid_mailsack_sha_rounds)] }
def MacSameSaid : Prop := macSameRow.holds Tryd.pinned (OpenSpec.ofChange macSameSpec)

/-- ITS FALSE NEIGHBOUR: 'it returns false'. Refute it at one input. -/
def macSameWrong : ChangeSpec := { name := "macSame", fn := fun _ => fun
  | [d1, d2] => { results := [.lit (.bool false)], args := [d1, d2] }
  | _ => none }
def MacSameWrongFalsely : Prop := macSameRow.holds Tryd.pinned (OpenSpec.ofChange macSameWrong)

/-- 'mailsacklaw02.MacLong': WHATEVER THE INPUT: true; the input reads as it did. -/
def macLongSpec : ChangeSpec := { name := "macLong", fn := fun _ => fun
  | [d1, d2, d3] => { results := [.lit (.bool true)], args := [d1, d2, d3] }
  | _ => none }
def macLongRow : OpenClaim := { program := "ytkbfflnjbafamaadoor", sum := "4cd107277fb49a2681c850bf25e4699fff4e1593e312553c3b0e7cb1dd6306d3", func := "mailsack/mailsacklaw02.MacLong", spec := "macLong", named := ["mailsack/sha.initial", "mailsack/sha.rounds"], apart := false, laid := [("mailsack/sha.initial", laid_mailsack_sha_initial), ("mailsack/sha.rounds", laid_mailsack_sha_rounds)] }
def MacLongSaid : Prop := macLongRow.holds Tryd.pinned (OpenSpec.ofChange macLongSpec)

/-- ITS FALSE NEIGHBOUR: 'it returns false'. Refute it at one input. -/
def macLongWrong : ChangeSpec := { name := "macLong", fn := fun _ => fun
  | [d1, d2, d3] => { results := [.lit (.bool false)], args := [d1, d2, d3] }
  | _ => none }
def MacLongWrongFalsely : Prop := macLongRow.holds Tryd.pinned (OpenSpec.ofChange macLongWrong)

/-- 'mailsacklaw02.MacSymm': WHATEVER THE INPUT: true; the input reads as it did. -/
def macSymmSpec : ChangeSpec := { name := "macSymm", fn := fun _ => fun
  | [d1, d2] => { results := [.lit (.bool true)], args := [d1, d2] }
  | _ => none }
def macSymmRow : OpenClaim := { program := "ytkbfflnjbafamaadoor", sum := "4cd107277fb49a2681c850bf25e4699fff4e1593e312553c3b0e7cb1dd6306d3", func := "mailsack/mailsacklaw02.MacSymm", spec := "macSymm", named := ["mailsack/sha.initial", "mailsack/sha.rounds"], apart := false, laid := [("mailsack/sha.initial", laid_mailsack_sha_initial), ("mailsack/sha.rounds", laid_mailsack_sha_rounds)] }
def MacSymmSaid : Prop := macSymmRow.holds Tryd.pinned (OpenSpec.ofChange macSymmSpec)

/-- ITS FALSE NEIGHBOUR: 'it returns false'. Refute it at one input. -/
def macSymmWrong : ChangeSpec := { name := "macSymm", fn := fun _ => fun
  | [d1, d2] => { results := [.lit (.bool false)], args := [d1, d2] }
  | _ => none }
def MacSymmWrongFalsely : Prop := macSymmRow.holds Tryd.pinned (OpenSpec.ofChange macSymmWrong)

/-- 'mailsacklaw02.MacDraws': WHATEVER THE INPUT: true; the input reads as it did. -/
def macDrawsSpec : ChangeSpec := { name := "macDraws", fn := fun _ => fun
  | [d1, d2, d3, d4] => { results := [.lit (.bool true)], args := [d1, d2, d3, d4] }
  | _ => none }
def macDrawsRow : OpenClaim := { program := "ytkbfflnjbafamaadoor", sum := "4cd107277fb49a2681c850bf25e4699fff4e1593e312553c3b0e7cb1dd6306d3", func := "mailsack/mailsacklaw02.MacDraws", spec := "macDraws", named := ["mailsack/sha.initial", "mailsack/sha.rounds"], apart := false, laid := [("mailsack/sha.initial", laid_mailsack_sha_initial), ("mailsack/sha.rounds", laid_mailsack_sha_rounds)] }
def MacDrawsSaid : Prop := macDrawsRow.holds Tryd.pinned (OpenSpec.ofChange macDrawsSpec)

/-- ITS FALSE NEIGHBOUR: 'it returns false'. Refute it at one input. -/
def macDrawsWrong : ChangeSpec := { name := "macDraws", fn := fun _ => fun
  | [d1, d2, d3, d4] => { results := [.lit (.bool false)], args := [d1, d2, d3, d4] }
  | _ => none }
def MacDrawsWrongFalsely : Prop := macDrawsRow.holds Tryd.pinned (OpenSpec.ofChange macDrawsWrong)

/-- 'mailsacklaw02.MacPasswords': WHATEVER THE INPUT: true; the input reads as it did. -/
def macPasswordsSpec : ChangeSpec := { name := "macPasswords", fn := fun _ => fun
  | [d1, d2, d3] => { results := [.lit (.bool true)], args := [d1, d2, d3] }
  | _ => none }
def macPasswordsRow : OpenClaim := { program := "ytkbfflnjbafamaadoor", sum := "4cd107277fb49a2681c850bf25e4699fff4e1593e312553c3b0e7cb1dd6306d3", func := "mailsack/mailsacklaw02.MacPasswords", spec := "macPasswords", named := ["mailsack/sha.initial", "mailsack/sha.rounds"], apart := false, laid := [("mailsack/sha.initial", laid_mailsack_sha_initial), ("mailsack/sha.rounds", laid_mailsack_sha_rounds)] }
def MacPasswordsSaid : Prop := macPasswordsRow.holds Tryd.pinned (OpenSpec.ofChange macPasswordsSpec)

/-- ITS FALSE NEIGHBOUR: 'it returns false'. Refute it at one input. -/
def macPasswordsWrong : ChangeSpec := { name := "macPasswords", fn := fun _ => fun
  | [d1, d2, d3] => { results := [.lit (.bool false)], args := [d1, d2, d3] }
  | _ => none }
def MacPasswordsWrongFalsely : Prop := macPasswordsRow.holds Tryd.pinned (OpenSpec.ofChange macPasswordsWrong)

/-- 'mailsacklaw02.MacRounds': WHATEVER THE INPUT: true; the input reads as it did. -/
def macRoundsSpec : ChangeSpec := { name := "macRounds", fn := fun _ => fun
  | [d1, d2] => { results := [.lit (.bool true)], args := [d1, d2] }
  | _ => none }
def macRoundsRow : OpenClaim := { program := "ytkbfflnjbafamaadoor", sum := "4cd107277fb49a2681c850bf25e4699fff4e1593e312553c3b0e7cb1dd6306d3", func := "mailsack/mailsacklaw02.MacRounds", spec := "macRounds", named := ["mailsack/sha.initial", "mailsack/sha.rounds"], apart := false, laid := [("mailsack/sha.initial", laid_mailsack_sha_initial), ("mailsack/sha.rounds", laid_mailsack_sha_rounds)] }
def MacRoundsSaid : Prop := macRoundsRow.holds Tryd.pinned (OpenSpec.ofChange macRoundsSpec)

/-- ITS FALSE NEIGHBOUR: 'it returns false'. Refute it at one input. -/
def macRoundsWrong : ChangeSpec := { name := "macRounds", fn := fun _ => fun
  | [d1, d2] => { results := [.lit (.bool false)], args := [d1, d2] }
  | _ => none }
def MacRoundsWrongFalsely : Prop := macRoundsRow.holds Tryd.pinned (OpenSpec.ofChange macRoundsWrong)

/-- 'mailsacklaw02.MacFirst': WHATEVER THE INPUT: true; the input reads as it did. -/
def macFirstSpec : ChangeSpec := { name := "macFirst", fn := fun _ => fun
  | [d1, d2, d3, d4, d5] => { results := [.lit (.bool true)], args := [d1, d2, d3, d4, d5] }
  | _ => none }
def macFirstRow : OpenClaim := { program := "ytkbfflnjbafamaadoor", sum := "4cd107277fb49a2681c850bf25e4699fff4e1593e312553c3b0e7cb1dd6306d3", func := "mailsack/mailsacklaw02.MacFirst", spec := "macFirst", named := ["mailsack/sha.initial", "mailsack/sha.rounds"], apart := false, laid := [("mailsack/sha.initial", laid_mailsack_sha_initial), ("mailsack/sha.rounds", laid_mailsack_sha_rounds)] }
def MacFirstSaid : Prop := macFirstRow.holds Tryd.pinned (OpenSpec.ofChange macFirstSpec)

/-- ITS FALSE NEIGHBOUR: 'it returns false'. Refute it at one input. -/
def macFirstWrong : ChangeSpec := { name := "macFirst", fn := fun _ => fun
  | [d1, d2, d3, d4, d5] => { results := [.lit (.bool false)], args := [d1, d2, d3, d4, d5] }
  | _ => none }
def MacFirstWrongFalsely : Prop := macFirstRow.holds Tryd.pinned (OpenSpec.ofChange macFirstWrong)

/- THE SECOND FORM. 'bulk': how many values and letters a reading holds, each counted each time it is reached (what is shared counts as often as it is met; a slice's spare places count too). A statement '..UptoSaid' is the law's where the arguments, and the package variables that the reading takes, are together of bulk at most 1048576: NARROWER than '..Said'. Prove '..Said' where nothing that the law and all that it calls make is longer than what came in: it says more and counts as full. Else prove '..UptoSaid'. A law counts once. -/
mutual
def uptoBulk {H : Type} : DataW H → Nat
  | .lit (.string bytes) => bytes.length + 1
  | .lit _ => 1
  | .nil => 1
  | .ptr d => uptoBulk d + 1
  | .slice elems spare => uptoBulkAll elems + uptoBulkAll spare + 1
  | .agg parts => uptoBulkAll parts + 1
  | .iface _ d => uptoBulk d + 1
  | .map entries => uptoBulkEntries entries + 1
  | .held _ => 1
def uptoBulkAll {H : Type} : List (DataW H) → Nat
  | [] => 0
  | d :: r => uptoBulk d + uptoBulkAll r
def uptoBulkEntries {H : Type} : List (Lit × DataW H) → Nat
  | [] => 0
  | x :: r => uptoBulkEntry x + uptoBulkEntries r
def uptoBulkEntry {H : Type} : Lit × DataW H → Nat
  | (.string bytes, d) => bytes.length + uptoBulk d + 1
  | (_, d) => uptoBulk d + 1
 end
def uptoSmall : (H : Type) → List (DataW H) → Bool := fun _ ds => decide (uptoBulkAll ds ≤ 1048576)
def OpenSpec.upto (s : _root_.Go.ChangeSpec) : _root_.Go.OpenSpec := { _root_.Go.OpenSpec.ofChange s with cond := some uptoSmall }

/-- 'mailsacklaw01.ShaSums', WHERE WHAT IT READS IS OF BULK AT MOST 1048576: true; the input reads as it did. -/
def shaSumsUptoRow : OpenClaim := { program := "ytkbfflnjbafamaadoor", sum := "4cd107277fb49a2681c850bf25e4699fff4e1593e312553c3b0e7cb1dd6306d3", func := "mailsack/mailsacklaw01.ShaSums", spec := "shaSums", named := ["mailsack/sha.initial", "mailsack/sha.rounds"], apart := false, laid := [("mailsack/sha.initial", laid_mailsack_sha_initial), ("mailsack/sha.rounds", laid_mailsack_sha_rounds)], narrowed := true }
def ShaSumsUptoSaid : Prop := shaSumsUptoRow.holds Tryd.pinned (OpenSpec.upto shaSumsSpec)

/-- 'mailsacklaw01.ShaBlocks', WHERE WHAT IT READS IS OF BULK AT MOST 1048576: true; the input reads as it did. -/
def shaBlocksUptoRow : OpenClaim := { program := "ytkbfflnjbafamaadoor", sum := "4cd107277fb49a2681c850bf25e4699fff4e1593e312553c3b0e7cb1dd6306d3", func := "mailsack/mailsacklaw01.ShaBlocks", spec := "shaBlocks", named := ["mailsack/sha.initial", "mailsack/sha.rounds"], apart := false, laid := [("mailsack/sha.initial", laid_mailsack_sha_initial), ("mailsack/sha.rounds", laid_mailsack_sha_rounds)], narrowed := true }
def ShaBlocksUptoSaid : Prop := shaBlocksUptoRow.holds Tryd.pinned (OpenSpec.upto shaBlocksSpec)

/-- 'mailsacklaw01.ShaHex', WHERE WHAT IT READS IS OF BULK AT MOST 1048576: true; the input reads as it did. -/
def shaHexUptoRow : OpenClaim := { program := "ytkbfflnjbafamaadoor", sum := "4cd107277fb49a2681c850bf25e4699fff4e1593e312553c3b0e7cb1dd6306d3", func := "mailsack/mailsacklaw01.ShaHex", spec := "shaHex", named := ["mailsack/sha.initial", "mailsack/sha.rounds"], apart := false, laid := [("mailsack/sha.initial", laid_mailsack_sha_initial), ("mailsack/sha.rounds", laid_mailsack_sha_rounds)], narrowed := true }
def ShaHexUptoSaid : Prop := shaHexUptoRow.holds Tryd.pinned (OpenSpec.upto shaHexSpec)

/-- 'mailsacklaw01.ShaGoes', WHERE WHAT IT READS IS OF BULK AT MOST 1048576: true; the input reads as it did. -/
def shaGoesUptoRow : OpenClaim := { program := "ytkbfflnjbafamaadoor", sum := "4cd107277fb49a2681c850bf25e4699fff4e1593e312553c3b0e7cb1dd6306d3", func := "mailsack/mailsacklaw01.ShaGoes", spec := "shaGoes", named := ["mailsack/sha.initial", "mailsack/sha.rounds"], apart := false, laid := [("mailsack/sha.initial", laid_mailsack_sha_initial), ("mailsack/sha.rounds", laid_mailsack_sha_rounds)], narrowed := true }
def ShaGoesUptoSaid : Prop := shaGoesUptoRow.holds Tryd.pinned (OpenSpec.upto shaGoesSpec)

/-- 'mailsacklaw01.ShaDigits', WHERE WHAT IT READS IS OF BULK AT MOST 1048576: true; the input reads as it did. -/
def shaDigitsUptoRow : OpenClaim := { program := "ytkbfflnjbafamaadoor", sum := "4cd107277fb49a2681c850bf25e4699fff4e1593e312553c3b0e7cb1dd6306d3", func := "mailsack/mailsacklaw01.ShaDigits", spec := "shaDigits", named := ["mailsack/sha.initial", "mailsack/sha.rounds"], apart := false, laid := [("mailsack/sha.initial", laid_mailsack_sha_initial), ("mailsack/sha.rounds", laid_mailsack_sha_rounds)], narrowed := true }
def ShaDigitsUptoSaid : Prop := shaDigitsUptoRow.holds Tryd.pinned (OpenSpec.upto shaDigitsSpec)

/-- 'mailsacklaw02.MacSums', WHERE WHAT IT READS IS OF BULK AT MOST 1048576: true; the input reads as it did. -/
def macSumsUptoRow : OpenClaim := { program := "ytkbfflnjbafamaadoor", sum := "4cd107277fb49a2681c850bf25e4699fff4e1593e312553c3b0e7cb1dd6306d3", func := "mailsack/mailsacklaw02.MacSums", spec := "macSums", named := ["mailsack/sha.initial", "mailsack/sha.rounds"], apart := false, laid := [("mailsack/sha.initial", laid_mailsack_sha_initial), ("mailsack/sha.rounds", laid_mailsack_sha_rounds)], narrowed := true }
def MacSumsUptoSaid : Prop := macSumsUptoRow.holds Tryd.pinned (OpenSpec.upto macSumsSpec)

/-- 'mailsacklaw02.MacSame', WHERE WHAT IT READS IS OF BULK AT MOST 1048576: true; the input reads as it did. -/
def macSameUptoRow : OpenClaim := { program := "ytkbfflnjbafamaadoor", sum := "4cd107277fb49a2681c850bf25e4699fff4e1593e312553c3b0e7cb1dd6306d3", func := "mailsack/mailsacklaw02.MacSame", spec := "macSame", named := ["mailsack/sha.initial", "mailsack/sha.rounds"], apart := false, laid := [("mailsack/sha.initial", laid_mailsack_sha_initial), ("mailsack/sha.rounds", laid_mailsack_sha_rounds)], narrowed := true }
def MacSameUptoSaid : Prop := macSameUptoRow.holds Tryd.pinned (OpenSpec.upto macSameSpec)

/-- 'mailsacklaw02.MacLong', WHERE WHAT IT READS IS OF BULK AT MOST 1048576: true; the input reads as it did. -/
def macLongUptoRow : OpenClaim := { program := "ytkbfflnjbafamaadoor", sum := "4cd107277fb49a2681c850bf25e4699fff4e1593e312553c3b0e7cb1dd6306d3", func := "mailsack/mailsacklaw02.MacLong", spec := "macLong", named := ["mailsack/sha.initial", "mailsack/sha.rounds"], apart := false, laid := [("mailsack/sha.initial", laid_mailsack_sha_initial), ("mailsack/sha.rounds", laid_mailsack_sha_rounds)], narrowed := true }
def MacLongUptoSaid : Prop := macLongUptoRow.holds Tryd.pinned (OpenSpec.upto macLongSpec)

/-- 'mailsacklaw02.MacSymm', WHERE WHAT IT READS IS OF BULK AT MOST 1048576: true; the input reads as it did. -/
def macSymmUptoRow : OpenClaim := { program := "ytkbfflnjbafamaadoor", sum := "4cd107277fb49a2681c850bf25e4699fff4e1593e312553c3b0e7cb1dd6306d3", func := "mailsack/mailsacklaw02.MacSymm", spec := "macSymm", named := ["mailsack/sha.initial", "mailsack/sha.rounds"], apart := false, laid := [("mailsack/sha.initial", laid_mailsack_sha_initial), ("mailsack/sha.rounds", laid_mailsack_sha_rounds)], narrowed := true }
def MacSymmUptoSaid : Prop := macSymmUptoRow.holds Tryd.pinned (OpenSpec.upto macSymmSpec)

/-- 'mailsacklaw02.MacDraws', WHERE WHAT IT READS IS OF BULK AT MOST 1048576: true; the input reads as it did. -/
def macDrawsUptoRow : OpenClaim := { program := "ytkbfflnjbafamaadoor", sum := "4cd107277fb49a2681c850bf25e4699fff4e1593e312553c3b0e7cb1dd6306d3", func := "mailsack/mailsacklaw02.MacDraws", spec := "macDraws", named := ["mailsack/sha.initial", "mailsack/sha.rounds"], apart := false, laid := [("mailsack/sha.initial", laid_mailsack_sha_initial), ("mailsack/sha.rounds", laid_mailsack_sha_rounds)], narrowed := true }
def MacDrawsUptoSaid : Prop := macDrawsUptoRow.holds Tryd.pinned (OpenSpec.upto macDrawsSpec)

/-- 'mailsacklaw02.MacPasswords', WHERE WHAT IT READS IS OF BULK AT MOST 1048576: true; the input reads as it did. -/
def macPasswordsUptoRow : OpenClaim := { program := "ytkbfflnjbafamaadoor", sum := "4cd107277fb49a2681c850bf25e4699fff4e1593e312553c3b0e7cb1dd6306d3", func := "mailsack/mailsacklaw02.MacPasswords", spec := "macPasswords", named := ["mailsack/sha.initial", "mailsack/sha.rounds"], apart := false, laid := [("mailsack/sha.initial", laid_mailsack_sha_initial), ("mailsack/sha.rounds", laid_mailsack_sha_rounds)], narrowed := true }
def MacPasswordsUptoSaid : Prop := macPasswordsUptoRow.holds Tryd.pinned (OpenSpec.upto macPasswordsSpec)

/-- 'mailsacklaw02.MacRounds', WHERE WHAT IT READS IS OF BULK AT MOST 1048576: true; the input reads as it did. -/
def macRoundsUptoRow : OpenClaim := { program := "ytkbfflnjbafamaadoor", sum := "4cd107277fb49a2681c850bf25e4699fff4e1593e312553c3b0e7cb1dd6306d3", func := "mailsack/mailsacklaw02.MacRounds", spec := "macRounds", named := ["mailsack/sha.initial", "mailsack/sha.rounds"], apart := false, laid := [("mailsack/sha.initial", laid_mailsack_sha_initial), ("mailsack/sha.rounds", laid_mailsack_sha_rounds)], narrowed := true }
def MacRoundsUptoSaid : Prop := macRoundsUptoRow.holds Tryd.pinned (OpenSpec.upto macRoundsSpec)

/-- 'mailsacklaw02.MacFirst', WHERE WHAT IT READS IS OF BULK AT MOST 1048576: true; the input reads as it did. -/
def macFirstUptoRow : OpenClaim := { program := "ytkbfflnjbafamaadoor", sum := "4cd107277fb49a2681c850bf25e4699fff4e1593e312553c3b0e7cb1dd6306d3", func := "mailsack/mailsacklaw02.MacFirst", spec := "macFirst", named := ["mailsack/sha.initial", "mailsack/sha.rounds"], apart := false, laid := [("mailsack/sha.initial", laid_mailsack_sha_initial), ("mailsack/sha.rounds", laid_mailsack_sha_rounds)], narrowed := true }
def MacFirstUptoSaid : Prop := macFirstUptoRow.holds Tryd.pinned (OpenSpec.upto macFirstSpec)

end Rows
end Go.Proofs.YtkbfflnjbafamaaDoor
