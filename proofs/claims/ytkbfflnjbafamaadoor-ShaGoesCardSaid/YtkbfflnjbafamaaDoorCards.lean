/-
  DERIVED. GIVEN WITH THE SEED: THE CARDS: each row of YtkbfflnjbafamaaDoorRows.lean that lists a variable, with what it lists TIED to the program's text (the seventh form; the later family's looks); each row that meets fmt, with fmt's text TOLD by the authors' own Lean function (tested against real Go, not proved from fmt's source: count such statements apart). THE CARD IS WHAT COUNTS. Prove the row's statement (the work); the ties are given (YtkbfflnjbafamaaDoorTie.lean); close each card by the builder's one call (the guide's Derived/Test/ToyasCard.lean, 'card_holds'). Laid BY PROGRAM, IN A SANDBOX (cutbox-door.mjs). By AI agents, Wed Nov 11 2026. No macro, syntax, notation, axiom, sorry.
-/
import Derived.Test.YtkbfflnjbafamaaDoorRows
import GoSem.ClaimSeven
namespace Go.Proofs.YtkbfflnjbafamaaDoor
namespace Rows

/-- THE TIED CARD OF 'mailsacklaw01.ShaSums'. -/
def shaSumsCard : Claim7 := { stood := { row := shaSumsRow, standIns := [], harness := (true, "4785973e5185a9b65910863a1909f1c6a7844804fb5f7204db2ab7d8ab73a957"), looks := false }, kinds := [], alts := [], laidByText := true, laidKinds := [.data, .data], laidTests := true, laidLooks := .later }
def ShaSumsCardSaid : Prop := Claim7.holds Tryd.pinned (.plain (OpenSpec.ofChange shaSumsSpec)) shaSumsCard

/-- THE TIED CARD OF 'mailsacklaw01.ShaBlocks'. -/
def shaBlocksCard : Claim7 := { stood := { row := shaBlocksRow, standIns := [], harness := (true, "4785973e5185a9b65910863a1909f1c6a7844804fb5f7204db2ab7d8ab73a957"), looks := false }, kinds := [], alts := [], laidByText := true, laidKinds := [.data, .data], laidTests := true, laidLooks := .later }
def ShaBlocksCardSaid : Prop := Claim7.holds Tryd.pinned (.plain (OpenSpec.ofChange shaBlocksSpec)) shaBlocksCard

/-- THE TIED CARD OF 'mailsacklaw01.ShaHex'. -/
def shaHexCard : Claim7 := { stood := { row := shaHexRow, standIns := [], harness := (true, "4785973e5185a9b65910863a1909f1c6a7844804fb5f7204db2ab7d8ab73a957"), looks := false }, kinds := [], alts := [], laidByText := true, laidKinds := [.data, .data], laidTests := true, laidLooks := .later }
def ShaHexCardSaid : Prop := Claim7.holds Tryd.pinned (.plain (OpenSpec.ofChange shaHexSpec)) shaHexCard

/-- THE TIED CARD OF 'mailsacklaw01.ShaGoes'. -/
def shaGoesCard : Claim7 := { stood := { row := shaGoesRow, standIns := [], harness := (true, "4785973e5185a9b65910863a1909f1c6a7844804fb5f7204db2ab7d8ab73a957"), looks := false }, kinds := [], alts := [], laidByText := true, laidKinds := [.data, .data], laidTests := true, laidLooks := .later }
def ShaGoesCardSaid : Prop := Claim7.holds Tryd.pinned (.plain (OpenSpec.ofChange shaGoesSpec)) shaGoesCard

/-- THE TIED CARD OF 'mailsacklaw01.ShaDigits'. -/
def shaDigitsCard : Claim7 := { stood := { row := shaDigitsRow, standIns := [], harness := (true, "4785973e5185a9b65910863a1909f1c6a7844804fb5f7204db2ab7d8ab73a957"), looks := false }, kinds := [], alts := [], laidByText := true, laidKinds := [.data, .data], laidTests := true, laidLooks := .later }
def ShaDigitsCardSaid : Prop := Claim7.holds Tryd.pinned (.plain (OpenSpec.ofChange shaDigitsSpec)) shaDigitsCard

/-- THE TIED CARD OF 'mailsacklaw02.MacSums'. -/
def macSumsCard : Claim7 := { stood := { row := macSumsRow, standIns := [], harness := (true, "4785973e5185a9b65910863a1909f1c6a7844804fb5f7204db2ab7d8ab73a957"), looks := false }, kinds := [], alts := [], laidByText := true, laidKinds := [.data, .data], laidTests := true, laidLooks := .later }
def MacSumsCardSaid : Prop := Claim7.holds Tryd.pinned (.plain (OpenSpec.ofChange macSumsSpec)) macSumsCard

/-- THE TIED CARD OF 'mailsacklaw02.MacSame'. -/
def macSameCard : Claim7 := { stood := { row := macSameRow, standIns := [], harness := (true, "4785973e5185a9b65910863a1909f1c6a7844804fb5f7204db2ab7d8ab73a957"), looks := false }, kinds := [], alts := [], laidByText := true, laidKinds := [.data, .data], laidTests := true, laidLooks := .later }
def MacSameCardSaid : Prop := Claim7.holds Tryd.pinned (.plain (OpenSpec.ofChange macSameSpec)) macSameCard

/-- THE TIED CARD OF 'mailsacklaw02.MacLong'. -/
def macLongCard : Claim7 := { stood := { row := macLongRow, standIns := [], harness := (true, "4785973e5185a9b65910863a1909f1c6a7844804fb5f7204db2ab7d8ab73a957"), looks := false }, kinds := [], alts := [], laidByText := true, laidKinds := [.data, .data], laidTests := true, laidLooks := .later }
def MacLongCardSaid : Prop := Claim7.holds Tryd.pinned (.plain (OpenSpec.ofChange macLongSpec)) macLongCard

/-- THE TIED CARD OF 'mailsacklaw02.MacSymm'. -/
def macSymmCard : Claim7 := { stood := { row := macSymmRow, standIns := [], harness := (true, "4785973e5185a9b65910863a1909f1c6a7844804fb5f7204db2ab7d8ab73a957"), looks := false }, kinds := [], alts := [], laidByText := true, laidKinds := [.data, .data], laidTests := true, laidLooks := .later }
def MacSymmCardSaid : Prop := Claim7.holds Tryd.pinned (.plain (OpenSpec.ofChange macSymmSpec)) macSymmCard

/-- THE TIED CARD OF 'mailsacklaw02.MacDraws'. -/
def macDrawsCard : Claim7 := { stood := { row := macDrawsRow, standIns := [], harness := (true, "4785973e5185a9b65910863a1909f1c6a7844804fb5f7204db2ab7d8ab73a957"), looks := false }, kinds := [], alts := [], laidByText := true, laidKinds := [.data, .data], laidTests := true, laidLooks := .later }
def MacDrawsCardSaid : Prop := Claim7.holds Tryd.pinned (.plain (OpenSpec.ofChange macDrawsSpec)) macDrawsCard

/-- THE TIED CARD OF 'mailsacklaw02.MacPasswords'. -/
def macPasswordsCard : Claim7 := { stood := { row := macPasswordsRow, standIns := [], harness := (true, "4785973e5185a9b65910863a1909f1c6a7844804fb5f7204db2ab7d8ab73a957"), looks := false }, kinds := [], alts := [], laidByText := true, laidKinds := [.data, .data], laidTests := true, laidLooks := .later }
def MacPasswordsCardSaid : Prop := Claim7.holds Tryd.pinned (.plain (OpenSpec.ofChange macPasswordsSpec)) macPasswordsCard

/-- THE TIED CARD OF 'mailsacklaw02.MacRounds'. -/
def macRoundsCard : Claim7 := { stood := { row := macRoundsRow, standIns := [], harness := (true, "4785973e5185a9b65910863a1909f1c6a7844804fb5f7204db2ab7d8ab73a957"), looks := false }, kinds := [], alts := [], laidByText := true, laidKinds := [.data, .data], laidTests := true, laidLooks := .later }
def MacRoundsCardSaid : Prop := Claim7.holds Tryd.pinned (.plain (OpenSpec.ofChange macRoundsSpec)) macRoundsCard

/-- THE TIED CARD OF 'mailsacklaw02.MacFirst'. -/
def macFirstCard : Claim7 := { stood := { row := macFirstRow, standIns := [], harness := (true, "4785973e5185a9b65910863a1909f1c6a7844804fb5f7204db2ab7d8ab73a957"), looks := false }, kinds := [], alts := [], laidByText := true, laidKinds := [.data, .data], laidTests := true, laidLooks := .later }
def MacFirstCardSaid : Prop := Claim7.holds Tryd.pinned (.plain (OpenSpec.ofChange macFirstSpec)) macFirstCard

/-- THE SECOND FORM's CARD OF 'mailsacklaw01.ShaSums'. -/
def shaSumsUptoCard : Claim7 := { stood := { row := shaSumsUptoRow, standIns := [], harness := (true, "4785973e5185a9b65910863a1909f1c6a7844804fb5f7204db2ab7d8ab73a957"), looks := false }, kinds := [], alts := [], laidByText := true, laidKinds := [.data, .data], laidTests := true, laidLooks := .later }
def ShaSumsUptoCardSaid : Prop := Claim7.holds Tryd.pinned (.plain (OpenSpec.upto shaSumsSpec)) shaSumsUptoCard

/-- THE SECOND FORM's CARD OF 'mailsacklaw01.ShaBlocks'. -/
def shaBlocksUptoCard : Claim7 := { stood := { row := shaBlocksUptoRow, standIns := [], harness := (true, "4785973e5185a9b65910863a1909f1c6a7844804fb5f7204db2ab7d8ab73a957"), looks := false }, kinds := [], alts := [], laidByText := true, laidKinds := [.data, .data], laidTests := true, laidLooks := .later }
def ShaBlocksUptoCardSaid : Prop := Claim7.holds Tryd.pinned (.plain (OpenSpec.upto shaBlocksSpec)) shaBlocksUptoCard

/-- THE SECOND FORM's CARD OF 'mailsacklaw01.ShaHex'. -/
def shaHexUptoCard : Claim7 := { stood := { row := shaHexUptoRow, standIns := [], harness := (true, "4785973e5185a9b65910863a1909f1c6a7844804fb5f7204db2ab7d8ab73a957"), looks := false }, kinds := [], alts := [], laidByText := true, laidKinds := [.data, .data], laidTests := true, laidLooks := .later }
def ShaHexUptoCardSaid : Prop := Claim7.holds Tryd.pinned (.plain (OpenSpec.upto shaHexSpec)) shaHexUptoCard

/-- THE SECOND FORM's CARD OF 'mailsacklaw01.ShaGoes'. -/
def shaGoesUptoCard : Claim7 := { stood := { row := shaGoesUptoRow, standIns := [], harness := (true, "4785973e5185a9b65910863a1909f1c6a7844804fb5f7204db2ab7d8ab73a957"), looks := false }, kinds := [], alts := [], laidByText := true, laidKinds := [.data, .data], laidTests := true, laidLooks := .later }
def ShaGoesUptoCardSaid : Prop := Claim7.holds Tryd.pinned (.plain (OpenSpec.upto shaGoesSpec)) shaGoesUptoCard

/-- THE SECOND FORM's CARD OF 'mailsacklaw01.ShaDigits'. -/
def shaDigitsUptoCard : Claim7 := { stood := { row := shaDigitsUptoRow, standIns := [], harness := (true, "4785973e5185a9b65910863a1909f1c6a7844804fb5f7204db2ab7d8ab73a957"), looks := false }, kinds := [], alts := [], laidByText := true, laidKinds := [.data, .data], laidTests := true, laidLooks := .later }
def ShaDigitsUptoCardSaid : Prop := Claim7.holds Tryd.pinned (.plain (OpenSpec.upto shaDigitsSpec)) shaDigitsUptoCard

/-- THE SECOND FORM's CARD OF 'mailsacklaw02.MacSums'. -/
def macSumsUptoCard : Claim7 := { stood := { row := macSumsUptoRow, standIns := [], harness := (true, "4785973e5185a9b65910863a1909f1c6a7844804fb5f7204db2ab7d8ab73a957"), looks := false }, kinds := [], alts := [], laidByText := true, laidKinds := [.data, .data], laidTests := true, laidLooks := .later }
def MacSumsUptoCardSaid : Prop := Claim7.holds Tryd.pinned (.plain (OpenSpec.upto macSumsSpec)) macSumsUptoCard

/-- THE SECOND FORM's CARD OF 'mailsacklaw02.MacSame'. -/
def macSameUptoCard : Claim7 := { stood := { row := macSameUptoRow, standIns := [], harness := (true, "4785973e5185a9b65910863a1909f1c6a7844804fb5f7204db2ab7d8ab73a957"), looks := false }, kinds := [], alts := [], laidByText := true, laidKinds := [.data, .data], laidTests := true, laidLooks := .later }
def MacSameUptoCardSaid : Prop := Claim7.holds Tryd.pinned (.plain (OpenSpec.upto macSameSpec)) macSameUptoCard

/-- THE SECOND FORM's CARD OF 'mailsacklaw02.MacLong'. -/
def macLongUptoCard : Claim7 := { stood := { row := macLongUptoRow, standIns := [], harness := (true, "4785973e5185a9b65910863a1909f1c6a7844804fb5f7204db2ab7d8ab73a957"), looks := false }, kinds := [], alts := [], laidByText := true, laidKinds := [.data, .data], laidTests := true, laidLooks := .later }
def MacLongUptoCardSaid : Prop := Claim7.holds Tryd.pinned (.plain (OpenSpec.upto macLongSpec)) macLongUptoCard

/-- THE SECOND FORM's CARD OF 'mailsacklaw02.MacSymm'. -/
def macSymmUptoCard : Claim7 := { stood := { row := macSymmUptoRow, standIns := [], harness := (true, "4785973e5185a9b65910863a1909f1c6a7844804fb5f7204db2ab7d8ab73a957"), looks := false }, kinds := [], alts := [], laidByText := true, laidKinds := [.data, .data], laidTests := true, laidLooks := .later }
def MacSymmUptoCardSaid : Prop := Claim7.holds Tryd.pinned (.plain (OpenSpec.upto macSymmSpec)) macSymmUptoCard

/-- THE SECOND FORM's CARD OF 'mailsacklaw02.MacDraws'. -/
def macDrawsUptoCard : Claim7 := { stood := { row := macDrawsUptoRow, standIns := [], harness := (true, "4785973e5185a9b65910863a1909f1c6a7844804fb5f7204db2ab7d8ab73a957"), looks := false }, kinds := [], alts := [], laidByText := true, laidKinds := [.data, .data], laidTests := true, laidLooks := .later }
def MacDrawsUptoCardSaid : Prop := Claim7.holds Tryd.pinned (.plain (OpenSpec.upto macDrawsSpec)) macDrawsUptoCard

/-- THE SECOND FORM's CARD OF 'mailsacklaw02.MacPasswords'. -/
def macPasswordsUptoCard : Claim7 := { stood := { row := macPasswordsUptoRow, standIns := [], harness := (true, "4785973e5185a9b65910863a1909f1c6a7844804fb5f7204db2ab7d8ab73a957"), looks := false }, kinds := [], alts := [], laidByText := true, laidKinds := [.data, .data], laidTests := true, laidLooks := .later }
def MacPasswordsUptoCardSaid : Prop := Claim7.holds Tryd.pinned (.plain (OpenSpec.upto macPasswordsSpec)) macPasswordsUptoCard

/-- THE SECOND FORM's CARD OF 'mailsacklaw02.MacRounds'. -/
def macRoundsUptoCard : Claim7 := { stood := { row := macRoundsUptoRow, standIns := [], harness := (true, "4785973e5185a9b65910863a1909f1c6a7844804fb5f7204db2ab7d8ab73a957"), looks := false }, kinds := [], alts := [], laidByText := true, laidKinds := [.data, .data], laidTests := true, laidLooks := .later }
def MacRoundsUptoCardSaid : Prop := Claim7.holds Tryd.pinned (.plain (OpenSpec.upto macRoundsSpec)) macRoundsUptoCard

/-- THE SECOND FORM's CARD OF 'mailsacklaw02.MacFirst'. -/
def macFirstUptoCard : Claim7 := { stood := { row := macFirstUptoRow, standIns := [], harness := (true, "4785973e5185a9b65910863a1909f1c6a7844804fb5f7204db2ab7d8ab73a957"), looks := false }, kinds := [], alts := [], laidByText := true, laidKinds := [.data, .data], laidTests := true, laidLooks := .later }
def MacFirstUptoCardSaid : Prop := Claim7.holds Tryd.pinned (.plain (OpenSpec.upto macFirstSpec)) macFirstUptoCard
end Rows
end Go.Proofs.YtkbfflnjbafamaaDoor
