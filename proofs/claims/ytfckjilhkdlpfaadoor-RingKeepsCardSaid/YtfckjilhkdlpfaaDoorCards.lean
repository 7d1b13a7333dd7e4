/-
  DERIVED. GIVEN WITH THE SEED: THE CARDS: each row of YtfckjilhkdlpfaaDoorRows.lean that lists a variable, with what it lists TIED to the program's text (the seventh form; the later family's looks); each row that meets fmt, with fmt's text TOLD by the authors' own Lean function (tested against real Go, not proved from fmt's source: count such statements apart). THE CARD IS WHAT COUNTS. Prove the row's statement (the work); the ties are given (YtfckjilhkdlpfaaDoorTie.lean); close each card by the builder's one call (the guide's Derived/Test/ToyasCard.lean, 'card_holds'). Laid BY PROGRAM, IN A SANDBOX (cutbox-door.mjs). By AI agents, Wed Nov 11 2026. No macro, syntax, notation, axiom, sorry.
-/
import Derived.Test.YtfckjilhkdlpfaaDoorRows
import GoSem.ClaimSeven
namespace Go.Proofs.YtfckjilhkdlpfaaDoor
namespace Rows

/-- THE TIED CARD OF 'mailsacklaw13.RingKeeps'. -/
def ringKeepsCard : Claim7 := { stood := { row := ringKeepsRow, standIns := [], harness := (true, "ef7d28277a67a9fcd3f221e9c1c97abff3e94c7dde920c1438b362f609b31767"), looks := false }, kinds := [], alts := [], laidByText := true, laidKinds := [.data, .data], laidTests := true, laidLooks := .later }
def RingKeepsCardSaid : Prop := Claim7.holds Tryd.pinned (.plain (OpenSpec.ofChange ringKeepsSpec)) ringKeepsCard

/-- THE TIED CARD OF 'mailsacklaw08.SealPads'. -/
def sealPadsCard : Claim7 := { stood := { row := sealPadsRow, standIns := [], harness := (true, "ef7d28277a67a9fcd3f221e9c1c97abff3e94c7dde920c1438b362f609b31767"), looks := false }, kinds := [], alts := [], laidByText := true, laidKinds := [.data, .data, .data], laidTests := true, laidLooks := .later }
def SealPadsCardSaid : Prop := Claim7.holds Tryd.pinned (.plain (OpenSpec.ofChange sealPadsSpec)) sealPadsCard

/-- THE TIED CARD OF 'mailsacklaw08.SealUnpads'. -/
def sealUnpadsCard : Claim7 := { stood := { row := sealUnpadsRow, standIns := [], harness := (true, "ef7d28277a67a9fcd3f221e9c1c97abff3e94c7dde920c1438b362f609b31767"), looks := false }, kinds := [], alts := [], laidByText := true, laidKinds := [.data, .data, .data], laidTests := true, laidLooks := .later }
def SealUnpadsCardSaid : Prop := Claim7.holds Tryd.pinned (.plain (OpenSpec.ofChange sealUnpadsSpec)) sealUnpadsCard

/-- THE TIED CARD OF 'mailsacklaw08.SealBoxes'. -/
def sealBoxesCard : Claim7 := { stood := { row := sealBoxesRow, standIns := [], harness := (true, "ef7d28277a67a9fcd3f221e9c1c97abff3e94c7dde920c1438b362f609b31767"), looks := false }, kinds := [], alts := [], laidByText := true, laidKinds := [.data, .data, .data], laidTests := true, laidLooks := .later }
def SealBoxesCardSaid : Prop := Claim7.holds Tryd.pinned (.plain (OpenSpec.ofChange sealBoxesSpec)) sealBoxesCard

/-- THE TIED CARD OF 'mailsacklaw08.SealClasses'. -/
def sealClassesCard : Claim7 := { stood := { row := sealClassesRow, standIns := [], harness := (true, "ef7d28277a67a9fcd3f221e9c1c97abff3e94c7dde920c1438b362f609b31767"), looks := false }, kinds := [], alts := [], laidByText := true, laidKinds := [.data, .data, .data], laidTests := true, laidLooks := .later }
def SealClassesCardSaid : Prop := Claim7.holds Tryd.pinned (.plain (OpenSpec.ofChange sealClassesSpec)) sealClassesCard

/-- THE TIED CARD OF 'mailsacklaw08.SealSizes'. -/
def sealSizesCard : Claim7 := { stood := { row := sealSizesRow, standIns := [], harness := (true, "ef7d28277a67a9fcd3f221e9c1c97abff3e94c7dde920c1438b362f609b31767"), looks := false }, kinds := [], alts := [], laidByText := true, laidKinds := [.data, .data, .data], laidTests := true, laidLooks := .later }
def SealSizesCardSaid : Prop := Claim7.holds Tryd.pinned (.plain (OpenSpec.ofChange sealSizesSpec)) sealSizesCard

/-- THE TIED CARD OF 'mailsacklaw08.SealBack'. -/
def sealBackCard : Claim7 := { stood := { row := sealBackRow, standIns := [], harness := (true, "ef7d28277a67a9fcd3f221e9c1c97abff3e94c7dde920c1438b362f609b31767"), looks := false }, kinds := [], alts := [], laidByText := true, laidKinds := [.data, .data, .data], laidTests := true, laidLooks := .later }
def SealBackCardSaid : Prop := Claim7.holds Tryd.pinned (.plain (OpenSpec.ofChange sealBackSpec)) sealBackCard

/-- THE SECOND FORM's CARD OF 'mailsacklaw13.RingKeeps'. -/
def ringKeepsUptoCard : Claim7 := { stood := { row := ringKeepsUptoRow, standIns := [], harness := (true, "ef7d28277a67a9fcd3f221e9c1c97abff3e94c7dde920c1438b362f609b31767"), looks := false }, kinds := [], alts := [], laidByText := true, laidKinds := [.data, .data], laidTests := true, laidLooks := .later }
def RingKeepsUptoCardSaid : Prop := Claim7.holds Tryd.pinned (.plain (OpenSpec.upto ringKeepsSpec)) ringKeepsUptoCard

/-- THE SECOND FORM's CARD OF 'mailsacklaw08.SealPads'. -/
def sealPadsUptoCard : Claim7 := { stood := { row := sealPadsUptoRow, standIns := [], harness := (true, "ef7d28277a67a9fcd3f221e9c1c97abff3e94c7dde920c1438b362f609b31767"), looks := false }, kinds := [], alts := [], laidByText := true, laidKinds := [.data, .data, .data], laidTests := true, laidLooks := .later }
def SealPadsUptoCardSaid : Prop := Claim7.holds Tryd.pinned (.plain (OpenSpec.upto sealPadsSpec)) sealPadsUptoCard

/-- THE SECOND FORM's CARD OF 'mailsacklaw08.SealUnpads'. -/
def sealUnpadsUptoCard : Claim7 := { stood := { row := sealUnpadsUptoRow, standIns := [], harness := (true, "ef7d28277a67a9fcd3f221e9c1c97abff3e94c7dde920c1438b362f609b31767"), looks := false }, kinds := [], alts := [], laidByText := true, laidKinds := [.data, .data, .data], laidTests := true, laidLooks := .later }
def SealUnpadsUptoCardSaid : Prop := Claim7.holds Tryd.pinned (.plain (OpenSpec.upto sealUnpadsSpec)) sealUnpadsUptoCard

/-- THE SECOND FORM's CARD OF 'mailsacklaw08.SealBoxes'. -/
def sealBoxesUptoCard : Claim7 := { stood := { row := sealBoxesUptoRow, standIns := [], harness := (true, "ef7d28277a67a9fcd3f221e9c1c97abff3e94c7dde920c1438b362f609b31767"), looks := false }, kinds := [], alts := [], laidByText := true, laidKinds := [.data, .data, .data], laidTests := true, laidLooks := .later }
def SealBoxesUptoCardSaid : Prop := Claim7.holds Tryd.pinned (.plain (OpenSpec.upto sealBoxesSpec)) sealBoxesUptoCard

/-- THE SECOND FORM's CARD OF 'mailsacklaw08.SealClasses'. -/
def sealClassesUptoCard : Claim7 := { stood := { row := sealClassesUptoRow, standIns := [], harness := (true, "ef7d28277a67a9fcd3f221e9c1c97abff3e94c7dde920c1438b362f609b31767"), looks := false }, kinds := [], alts := [], laidByText := true, laidKinds := [.data, .data, .data], laidTests := true, laidLooks := .later }
def SealClassesUptoCardSaid : Prop := Claim7.holds Tryd.pinned (.plain (OpenSpec.upto sealClassesSpec)) sealClassesUptoCard

/-- THE SECOND FORM's CARD OF 'mailsacklaw08.SealSizes'. -/
def sealSizesUptoCard : Claim7 := { stood := { row := sealSizesUptoRow, standIns := [], harness := (true, "ef7d28277a67a9fcd3f221e9c1c97abff3e94c7dde920c1438b362f609b31767"), looks := false }, kinds := [], alts := [], laidByText := true, laidKinds := [.data, .data, .data], laidTests := true, laidLooks := .later }
def SealSizesUptoCardSaid : Prop := Claim7.holds Tryd.pinned (.plain (OpenSpec.upto sealSizesSpec)) sealSizesUptoCard

/-- THE SECOND FORM's CARD OF 'mailsacklaw08.SealBack'. -/
def sealBackUptoCard : Claim7 := { stood := { row := sealBackUptoRow, standIns := [], harness := (true, "ef7d28277a67a9fcd3f221e9c1c97abff3e94c7dde920c1438b362f609b31767"), looks := false }, kinds := [], alts := [], laidByText := true, laidKinds := [.data, .data, .data], laidTests := true, laidLooks := .later }
def SealBackUptoCardSaid : Prop := Claim7.holds Tryd.pinned (.plain (OpenSpec.upto sealBackSpec)) sealBackUptoCard
end Rows
end Go.Proofs.YtfckjilhkdlpfaaDoor
