/-
  DERIVED. GIVEN WITH THE SEED: THE CARDS: each row of YtkanjdllaikoaaaDoorRows.lean that lists a variable, with what it lists TIED to the program's text (the seventh form; the later family's looks); each row that meets fmt, with fmt's text TOLD by the authors' own Lean function (tested against real Go, not proved from fmt's source: count such statements apart). THE CARD IS WHAT COUNTS. Prove the row's statement (the work); the ties are given (YtkanjdllaikoaaaDoorTie.lean); close each card by the builder's one call (the guide's Derived/Test/ToyasCard.lean, 'card_holds'). Laid BY PROGRAM, IN A SANDBOX (cutbox-door.mjs). By AI agents, Wed Nov 11 2026. No macro, syntax, notation, axiom, sorry.
-/
import Derived.Test.YtkanjdllaikoaaaDoorRows
import GoSem.ClaimSeven
namespace Go.Proofs.YtkanjdllaikoaaaDoor
namespace Rows

/-- THE TIED CARD OF 'waybilllaw08.HexaWrites'. -/
def hexaWritesCard : Claim7 := { stood := { row := hexaWritesRow, standIns := [], harness := (true, "45995188511ae59b592a08f8e754ee2c29282ccd1e9ef64f1e449d9e34fb9a5f"), looks := false }, kinds := [], alts := [], laidByText := true, laidKinds := [.data, .data, .data, .data, .pinned], laidTests := true, laidLooks := .later }
def HexaWritesCardSaid : Prop := Claim7.holds Tryd.pinned (.plain (OpenSpec.ofChange hexaWritesSpec)) hexaWritesCard

/-- THE TIED CARD OF 'waybilllaw08.HexaCase'. -/
def hexaCaseCard : Claim7 := { stood := { row := hexaCaseRow, standIns := [], harness := (true, "45995188511ae59b592a08f8e754ee2c29282ccd1e9ef64f1e449d9e34fb9a5f"), looks := false }, kinds := [], alts := [], laidByText := true, laidKinds := [.data, .data, .pinned, .pinned], laidTests := true, laidLooks := .later }
def HexaCaseCardSaid : Prop := Claim7.holds Tryd.pinned (.plain (OpenSpec.ofChange hexaCaseSpec)) hexaCaseCard

/-- THE TIED CARD OF 'waybilllaw08.HexaFixed'. -/
def hexaFixedCard : Claim7 := { stood := { row := hexaFixedRow, standIns := [], harness := (true, "45995188511ae59b592a08f8e754ee2c29282ccd1e9ef64f1e449d9e34fb9a5f"), looks := false }, kinds := [], alts := [], laidByText := true, laidKinds := [.data, .data, .data, .data, .pinned, .pinned], laidTests := true, laidLooks := .later }
def HexaFixedCardSaid : Prop := Claim7.holds Tryd.pinned (.plain (OpenSpec.ofChange hexaFixedSpec)) hexaFixedCard

/-- THE TIED CARD OF 'waybilllaw08.HexaBack'. -/
def hexaBackCard : Claim7 := { stood := { row := hexaBackRow, standIns := [], harness := (true, "45995188511ae59b592a08f8e754ee2c29282ccd1e9ef64f1e449d9e34fb9a5f"), looks := false }, kinds := [], alts := [], laidByText := true, laidKinds := [.data, .data, .pinned, .pinned], laidTests := true, laidLooks := .later }
def HexaBackCardSaid : Prop := Claim7.holds Tryd.pinned (.plain (OpenSpec.ofChange hexaBackSpec)) hexaBackCard

/-- THE TIED CARD OF 'waybilllaw08.HexaOne'. -/
def hexaOneCard : Claim7 := { stood := { row := hexaOneRow, standIns := [], harness := (true, "45995188511ae59b592a08f8e754ee2c29282ccd1e9ef64f1e449d9e34fb9a5f"), looks := false }, kinds := [], alts := [], laidByText := true, laidKinds := [.data, .data, .pinned, .pinned], laidTests := true, laidLooks := .later }
def HexaOneCardSaid : Prop := Claim7.holds Tryd.pinned (.plain (OpenSpec.ofChange hexaOneSpec)) hexaOneCard

/-- THE SECOND FORM's CARD OF 'waybilllaw08.HexaWrites'. -/
def hexaWritesUptoCard : Claim7 := { stood := { row := hexaWritesUptoRow, standIns := [], harness := (true, "45995188511ae59b592a08f8e754ee2c29282ccd1e9ef64f1e449d9e34fb9a5f"), looks := false }, kinds := [], alts := [], laidByText := true, laidKinds := [.data, .data, .data, .data, .pinned], laidTests := true, laidLooks := .later }
def HexaWritesUptoCardSaid : Prop := Claim7.holds Tryd.pinned (.plain (OpenSpec.upto hexaWritesSpec)) hexaWritesUptoCard

/-- THE SECOND FORM's CARD OF 'waybilllaw08.HexaCase'. -/
def hexaCaseUptoCard : Claim7 := { stood := { row := hexaCaseUptoRow, standIns := [], harness := (true, "45995188511ae59b592a08f8e754ee2c29282ccd1e9ef64f1e449d9e34fb9a5f"), looks := false }, kinds := [], alts := [], laidByText := true, laidKinds := [.data, .data, .pinned, .pinned], laidTests := true, laidLooks := .later }
def HexaCaseUptoCardSaid : Prop := Claim7.holds Tryd.pinned (.plain (OpenSpec.upto hexaCaseSpec)) hexaCaseUptoCard

/-- THE SECOND FORM's CARD OF 'waybilllaw08.HexaFixed'. -/
def hexaFixedUptoCard : Claim7 := { stood := { row := hexaFixedUptoRow, standIns := [], harness := (true, "45995188511ae59b592a08f8e754ee2c29282ccd1e9ef64f1e449d9e34fb9a5f"), looks := false }, kinds := [], alts := [], laidByText := true, laidKinds := [.data, .data, .data, .data, .pinned, .pinned], laidTests := true, laidLooks := .later }
def HexaFixedUptoCardSaid : Prop := Claim7.holds Tryd.pinned (.plain (OpenSpec.upto hexaFixedSpec)) hexaFixedUptoCard

/-- THE SECOND FORM's CARD OF 'waybilllaw08.HexaBack'. -/
def hexaBackUptoCard : Claim7 := { stood := { row := hexaBackUptoRow, standIns := [], harness := (true, "45995188511ae59b592a08f8e754ee2c29282ccd1e9ef64f1e449d9e34fb9a5f"), looks := false }, kinds := [], alts := [], laidByText := true, laidKinds := [.data, .data, .pinned, .pinned], laidTests := true, laidLooks := .later }
def HexaBackUptoCardSaid : Prop := Claim7.holds Tryd.pinned (.plain (OpenSpec.upto hexaBackSpec)) hexaBackUptoCard

/-- THE SECOND FORM's CARD OF 'waybilllaw08.HexaOne'. -/
def hexaOneUptoCard : Claim7 := { stood := { row := hexaOneUptoRow, standIns := [], harness := (true, "45995188511ae59b592a08f8e754ee2c29282ccd1e9ef64f1e449d9e34fb9a5f"), looks := false }, kinds := [], alts := [], laidByText := true, laidKinds := [.data, .data, .pinned, .pinned], laidTests := true, laidLooks := .later }
def HexaOneUptoCardSaid : Prop := Claim7.holds Tryd.pinned (.plain (OpenSpec.upto hexaOneSpec)) hexaOneUptoCard
end Rows
end Go.Proofs.YtkanjdllaikoaaaDoor
