/-
  DERIVED. GIVEN WITH THE SEED: THE CARDS: each row of YthgnmpjcbicdhaaDoorRows.lean that lists a variable, with what it lists TIED to the program's text (the seventh form; the later family's looks); each row that meets fmt, with fmt's text TOLD by the authors' own Lean function (tested against real Go, not proved from fmt's source: count such statements apart). THE CARD IS WHAT COUNTS. Prove the row's statement (the work); the ties are given (YthgnmpjcbicdhaaDoorTie.lean); close each card by the builder's one call (the guide's Derived/Test/ToyasCard.lean, 'card_holds'). Laid BY PROGRAM, IN A SANDBOX (cutbox-door.mjs). By AI agents, Wed Nov 11 2026. No macro, syntax, notation, axiom, sorry.
-/
import Derived.Test.YthgnmpjcbicdhaaDoorRows
import GoSem.ClaimSeven
namespace Go.Proofs.YthgnmpjcbicdhaaDoor
namespace Rows

/-- THE TIED CARD OF 'waybilllaw01.U256Texts'. -/
def u256TextsCard : Claim7 := { stood := { row := u256TextsRow, standIns := [], harness := (true, "eb563db5765dec2fd9060508cdbcd89e6d05385ae33ae73292ec402657a1f6e3"), looks := true }, kinds := [], alts := [], laidByText := true, laidKinds := [.data, .data, .data, .sentinel, .sentinel, .data], laidTests := true, laidLooks := .later }
def U256TextsCardSaid : Prop := Claim7.holds Tryd.pinned (.plain (OpenSpec.ofChange u256TextsSpec)) u256TextsCard

/-- THE TIED CARD OF 'waybilllaw01.U256Back'. -/
def u256BackCard : Claim7 := { stood := { row := u256BackRow, standIns := [], harness := (true, "eb563db5765dec2fd9060508cdbcd89e6d05385ae33ae73292ec402657a1f6e3"), looks := true }, kinds := [], alts := [], laidByText := true, laidKinds := [.data, .data, .data, .sentinel, .sentinel, .data], laidTests := true, laidLooks := .later }
def U256BackCardSaid : Prop := Claim7.holds Tryd.pinned (.plain (OpenSpec.ofChange u256BackSpec)) u256BackCard

/-- THE SECOND FORM's CARD OF 'waybilllaw01.U256Texts'. -/
def u256TextsUptoCard : Claim7 := { stood := { row := u256TextsUptoRow, standIns := [], harness := (true, "eb563db5765dec2fd9060508cdbcd89e6d05385ae33ae73292ec402657a1f6e3"), looks := true }, kinds := [], alts := [], laidByText := true, laidKinds := [.data, .data, .data, .sentinel, .sentinel, .data], laidTests := true, laidLooks := .later }
def U256TextsUptoCardSaid : Prop := Claim7.holds Tryd.pinned (.plain (OpenSpec.upto u256TextsSpec)) u256TextsUptoCard

/-- THE SECOND FORM's CARD OF 'waybilllaw01.U256Back'. -/
def u256BackUptoCard : Claim7 := { stood := { row := u256BackUptoRow, standIns := [], harness := (true, "eb563db5765dec2fd9060508cdbcd89e6d05385ae33ae73292ec402657a1f6e3"), looks := true }, kinds := [], alts := [], laidByText := true, laidKinds := [.data, .data, .data, .sentinel, .sentinel, .data], laidTests := true, laidLooks := .later }
def U256BackUptoCardSaid : Prop := Claim7.holds Tryd.pinned (.plain (OpenSpec.upto u256BackSpec)) u256BackUptoCard
end Rows
end Go.Proofs.YthgnmpjcbicdhaaDoor
