/-
  DERIVED. GIVEN WITH THE SEED: THE CARDS: each row of YtfckjilhkdlpfaaGreatDoorRows.lean that lists a variable, with what it lists TIED to the program's text (the seventh form; the later family's looks); each row that meets fmt, with fmt's text TOLD by the authors' own Lean function (tested against real Go, not proved from fmt's source: count such statements apart). THE CARD IS WHAT COUNTS. Prove the row's statement (the work); the ties are given (YtfckjilhkdlpfaaGreatDoorTie.lean); close each card by the builder's one call (the guide's Derived/Test/ToyasCard.lean, 'card_holds'). Laid BY PROGRAM, IN A SANDBOX (cutbox-door.mjs). By AI agents, Wed Nov 11 2026. No macro, syntax, notation, axiom, sorry.
-/
import Derived.Test.YtfckjilhkdlpfaaGreatDoorRows
import GoSem.ClaimSeven
namespace Go.Proofs.YtfckjilhkdlpfaaGreatDoor
namespace Rows

/-- THE TIED CARD OF 'mailsacklaw13.RingTurns'. -/
def ringTurnsCard : Claim7 := { stood := { row := ringTurnsRow, standIns := [], harness := (true, "c28679423a9da820976f4227d2c6fea16a7b90ca52f9c9068d426786f752d274"), looks := false }, kinds := [], alts := [], laidByText := true, laidKinds := [.data, .data], laidTests := true, laidLooks := .later }
def RingTurnsCardSaid : Prop := Claim7.holds Tryz.pinned (.plain (OpenSpec.ofChange ringTurnsSpec)) ringTurnsCard

/-- THE TIED CARD OF 'mailsacklaw13.RingMakes'. -/
def ringMakesCard : Claim7 := { stood := { row := ringMakesRow, standIns := [], harness := (true, "c28679423a9da820976f4227d2c6fea16a7b90ca52f9c9068d426786f752d274"), looks := false }, kinds := [], alts := [], laidByText := true, laidKinds := [.data, .data], laidTests := true, laidLooks := .later }
def RingMakesCardSaid : Prop := Claim7.holds Tryz.pinned (.plain (OpenSpec.ofChange ringMakesSpec)) ringMakesCard

/-- THE TIED CARD OF 'mailsacklaw13.RingUnlocks'. -/
def ringUnlocksCard : Claim7 := { stood := { row := ringUnlocksRow, standIns := [], harness := (true, "c28679423a9da820976f4227d2c6fea16a7b90ca52f9c9068d426786f752d274"), looks := false }, kinds := [], alts := [], laidByText := true, laidKinds := [.data, .data], laidTests := true, laidLooks := .later }
def RingUnlocksCardSaid : Prop := Claim7.holds Tryz.pinned (.plain (OpenSpec.ofChange ringUnlocksSpec)) ringUnlocksCard

/-- THE TIED CARD OF 'mailsacklaw08.SealOpens'. -/
def sealOpensCard : Claim7 := { stood := { row := sealOpensRow, standIns := [], harness := (true, "c28679423a9da820976f4227d2c6fea16a7b90ca52f9c9068d426786f752d274"), looks := false }, kinds := [], alts := [], laidByText := true, laidKinds := [.data, .data, .data], laidTests := true, laidLooks := .later }
def SealOpensCardSaid : Prop := Claim7.holds Tryz.pinned (.plain (OpenSpec.ofChange sealOpensSpec)) sealOpensCard

/-- THE SECOND FORM's CARD OF 'mailsacklaw13.RingTurns'. -/
def ringTurnsUptoCard : Claim7 := { stood := { row := ringTurnsUptoRow, standIns := [], harness := (true, "c28679423a9da820976f4227d2c6fea16a7b90ca52f9c9068d426786f752d274"), looks := false }, kinds := [], alts := [], laidByText := true, laidKinds := [.data, .data], laidTests := true, laidLooks := .later }
def RingTurnsUptoCardSaid : Prop := Claim7.holds Tryz.pinned (.plain (OpenSpec.upto ringTurnsSpec)) ringTurnsUptoCard

/-- THE SECOND FORM's CARD OF 'mailsacklaw13.RingMakes'. -/
def ringMakesUptoCard : Claim7 := { stood := { row := ringMakesUptoRow, standIns := [], harness := (true, "c28679423a9da820976f4227d2c6fea16a7b90ca52f9c9068d426786f752d274"), looks := false }, kinds := [], alts := [], laidByText := true, laidKinds := [.data, .data], laidTests := true, laidLooks := .later }
def RingMakesUptoCardSaid : Prop := Claim7.holds Tryz.pinned (.plain (OpenSpec.upto ringMakesSpec)) ringMakesUptoCard

/-- THE SECOND FORM's CARD OF 'mailsacklaw13.RingUnlocks'. -/
def ringUnlocksUptoCard : Claim7 := { stood := { row := ringUnlocksUptoRow, standIns := [], harness := (true, "c28679423a9da820976f4227d2c6fea16a7b90ca52f9c9068d426786f752d274"), looks := false }, kinds := [], alts := [], laidByText := true, laidKinds := [.data, .data], laidTests := true, laidLooks := .later }
def RingUnlocksUptoCardSaid : Prop := Claim7.holds Tryz.pinned (.plain (OpenSpec.upto ringUnlocksSpec)) ringUnlocksUptoCard

/-- THE SECOND FORM's CARD OF 'mailsacklaw08.SealOpens'. -/
def sealOpensUptoCard : Claim7 := { stood := { row := sealOpensUptoRow, standIns := [], harness := (true, "c28679423a9da820976f4227d2c6fea16a7b90ca52f9c9068d426786f752d274"), looks := false }, kinds := [], alts := [], laidByText := true, laidKinds := [.data, .data, .data], laidTests := true, laidLooks := .later }
def SealOpensUptoCardSaid : Prop := Claim7.holds Tryz.pinned (.plain (OpenSpec.upto sealOpensSpec)) sealOpensUptoCard
end Rows
end Go.Proofs.YtfckjilhkdlpfaaGreatDoor
