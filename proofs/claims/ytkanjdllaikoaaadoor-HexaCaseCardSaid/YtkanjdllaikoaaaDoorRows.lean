/-
  NARROWER THAN 'FOR EVERY INPUT', by the rows' own cells (each row's printed sentence says how): HexaWrites: laid · HexaCase: laid · HexaFixed: laid · HexaBack: laid · HexaOne: laid.
  DERIVED. THE GIVEN ROWS OF THIS SEAT. 5 by the template 'for every input the law returns true; each argument reads behind the call as it read before'; 0 by the template 'total and deterministic' (their statements: YtkanjdllaikoaaaDoorTotals.lean).
  GIVEN WITH THE SEED: the statements are not yours to turn. If you find one false, say at which input.
  Laid BY PROGRAM, IN A SANDBOX (cutbox-rows.mjs): the forced cells as the released guide's own fill.sh prints them over the translation 85a3ac2e4df67726… (all of the seat's roots in one cut). By AI agents, Wed Nov 11 2026. No macro, syntax, notation, axiom, sorry.
-/
import Derived.Test.YtkanjdllaikoaaaDoorChecked
import GoSem.PinnedTables
import GoSem.Claim
import GoSem.ClaimJoined
import GoSem.ClaimMapViews
import Derived.JoinedTies
import Derived.KernelRfl
namespace Go.Proofs.YtkanjdllaikoaaaDoor
/- THE CELL 'sum', in the pinned program and in every row, IS THE sha256 OF THE DUMP (.gsa) THAT YtkanjdllaikoaaaDoorProg.lean LOADS. Nothing in Lean hashes anything: it is a label: what it is worth is what the hold of that sum in a sandbox is worth. -/
noncomputable def Tryd.pinned : Pinned := { name := "ytkanjdllaikoaaadoor", sum := "85a3ac2e4df677269ed83a64af19be006452c4e4aa20a1caaf22e11605cad6da", checked := Tryd.checked }
namespace Rows
def none {H : Type} : Left H := { results := [], args := [] }

/- WHAT THE LISTED PACKAGE-LEVEL VARIABLES READ AS WHEN THE CALL BEGINS. Each datum BY PROGRAM (the guide's laid-datum.mjs) off the statement by which the dump's own 'gosem.cut.vars' lays the variable. In a bare row this is a premise. The card (YtkanjdllaikoaaaDoorCards.lean) ties it to the program's text. -/
def laid_unicode_utf8_acceptRanges {H : Type} : DataW H := .agg [.agg [.lit (.int .u8 128), .lit (.int .u8 191)], .agg [.lit (.int .u8 160), .lit (.int .u8 191)], .agg [.lit (.int .u8 128), .lit (.int .u8 159)], .agg [.lit (.int .u8 144), .lit (.int .u8 191)], .agg [.lit (.int .u8 128), .lit (.int .u8 143)], .agg [.lit (.int .u8 0), .lit (.int .u8 0)], .agg [.lit (.int .u8 0), .lit (.int .u8 0)], .agg [.lit (.int .u8 0), .lit (.int .u8 0)], .agg [.lit (.int .u8 0), .lit (.int .u8 0)], .agg [.lit (.int .u8 0), .lit (.int .u8 0)], .agg [.lit (.int .u8 0), .lit (.int .u8 0)], .agg [.lit (.int .u8 0), .lit (.int .u8 0)], .agg [.lit (.int .u8 0), .lit (.int .u8 0)], .agg [.lit (.int .u8 0), .lit (.int .u8 0)], .agg [.lit (.int .u8 0), .lit (.int .u8 0)], .agg [.lit (.int .u8 0), .lit (.int .u8 0)]]
def laid_waybill_keccak_first {H : Type} : DataW H := .agg [.lit (.int .u8 1), .lit (.int .u8 6)]
def laid_waybill_waybillref02_rounds {H : Type} : DataW H := .agg [.lit (.int .u64 1), .lit (.int .u64 32898), .lit (.int .u64 9223372036854808714), .lit (.int .u64 9223372039002292224), .lit (.int .u64 32907), .lit (.int .u64 2147483649), .lit (.int .u64 9223372039002292353), .lit (.int .u64 9223372036854808585), .lit (.int .u64 138), .lit (.int .u64 136), .lit (.int .u64 2147516425), .lit (.int .u64 2147483658), .lit (.int .u64 2147516555), .lit (.int .u64 9223372036854775947), .lit (.int .u64 9223372036854808713), .lit (.int .u64 9223372036854808579), .lit (.int .u64 9223372036854808578), .lit (.int .u64 9223372036854775936), .lit (.int .u64 32778), .lit (.int .u64 9223372039002259466), .lit (.int .u64 9223372039002292353), .lit (.int .u64 9223372036854808704), .lit (.int .u64 2147483649), .lit (.int .u64 9223372039002292232)]
def laid_waybill_waybillref02_turns {H : Type} : DataW H := .agg [.lit (.int .i64 0), .lit (.int .i64 1), .lit (.int .i64 62), .lit (.int .i64 28), .lit (.int .i64 27), .lit (.int .i64 36), .lit (.int .i64 44), .lit (.int .i64 6), .lit (.int .i64 55), .lit (.int .i64 20), .lit (.int .i64 3), .lit (.int .i64 10), .lit (.int .i64 43), .lit (.int .i64 25), .lit (.int .i64 39), .lit (.int .i64 41), .lit (.int .i64 45), .lit (.int .i64 15), .lit (.int .i64 21), .lit (.int .i64 8), .lit (.int .i64 18), .lit (.int .i64 2), .lit (.int .i64 61), .lit (.int .i64 56), .lit (.int .i64 14)]
/-- One of Go's own tables, pinned by name: the form's constant. -/
def laid_unicode_utf8_first : DataW Unit := Go.Pinned.utf8First
/-- One of Go's own tables, pinned by name: the form's constant. -/
def laid_unicode_CaseRanges : DataW Unit := Go.Pinned.caseRanges

/-- 'waybilllaw08.HexaWrites': WHATEVER THE INPUT: true; the input reads as it did. -/
def hexaWritesSpec : ChangeSpec := { name := "hexaWrites", fn := fun _ => fun
  | [d1, d2, d3, d4, d5] => { results := [.lit (.bool true)], args := [d1, d2, d3, d4, d5] }
  | _ => none }
def hexaWritesRow : OpenClaim := { program := "ytkanjdllaikoaaadoor", sum := "85a3ac2e4df677269ed83a64af19be006452c4e4aa20a1caaf22e11605cad6da", func := "waybill/waybilllaw08.HexaWrites", spec := "hexaWrites", inPlace := ["internal/abi.NoEscape", "internal/bytealg.IndexByteString", "internal/bytealg.IndexString"], named := ["unicode/utf8.first", "unicode/utf8.acceptRanges", "waybill/keccak.first", "waybill/waybillref02.rounds", "waybill/waybillref02.turns", "internal/bytealg.MaxLen"], apart := false, laid := [("unicode/utf8.acceptRanges", laid_unicode_utf8_acceptRanges), ("waybill/keccak.first", laid_waybill_keccak_first), ("waybill/waybillref02.rounds", laid_waybill_waybillref02_rounds), ("waybill/waybillref02.turns", laid_waybill_waybillref02_turns), ("unicode/utf8.first", laid_unicode_utf8_first)] }
def HexaWritesSaid : Prop := hexaWritesRow.holds Tryd.pinned (OpenSpec.ofChange hexaWritesSpec)

/-- ITS FALSE NEIGHBOUR: 'it returns false'. Refute it at one input. -/
def hexaWritesWrong : ChangeSpec := { name := "hexaWrites", fn := fun _ => fun
  | [d1, d2, d3, d4, d5] => { results := [.lit (.bool false)], args := [d1, d2, d3, d4, d5] }
  | _ => none }
def HexaWritesWrongFalsely : Prop := hexaWritesRow.holds Tryd.pinned (OpenSpec.ofChange hexaWritesWrong)

/-- 'waybilllaw08.HexaCase': WHATEVER THE INPUT: true; the input reads as it did. -/
def hexaCaseSpec : ChangeSpec := { name := "hexaCase", fn := fun _ => fun
  | [d1, d2] => { results := [.lit (.bool true)], args := [d1, d2] }
  | _ => none }
def hexaCaseRow : OpenClaim := { program := "ytkanjdllaikoaaadoor", sum := "85a3ac2e4df677269ed83a64af19be006452c4e4aa20a1caaf22e11605cad6da", func := "waybill/waybilllaw08.HexaCase", spec := "hexaCase", inPlace := ["internal/abi.NoEscape", "internal/bytealg.MakeNoZero"], unfollowed := true, recurses := true, named := ["waybill/keccak.first", "unicode/utf8.first", "unicode/utf8.acceptRanges", "unicode.CaseRanges"], apart := false, laid := [("unicode/utf8.acceptRanges", laid_unicode_utf8_acceptRanges), ("waybill/keccak.first", laid_waybill_keccak_first), ("unicode.CaseRanges", laid_unicode_CaseRanges), ("unicode/utf8.first", laid_unicode_utf8_first)] }
def HexaCaseSaid : Prop := hexaCaseRow.holds Tryd.pinned (OpenSpec.ofChange hexaCaseSpec)

/-- ITS FALSE NEIGHBOUR: 'it returns false'. Refute it at one input. -/
def hexaCaseWrong : ChangeSpec := { name := "hexaCase", fn := fun _ => fun
  | [d1, d2] => { results := [.lit (.bool false)], args := [d1, d2] }
  | _ => none }
def HexaCaseWrongFalsely : Prop := hexaCaseRow.holds Tryd.pinned (OpenSpec.ofChange hexaCaseWrong)

/-- 'waybilllaw08.HexaFixed': WHATEVER THE INPUT: true; the input reads as it did. -/
def hexaFixedSpec : ChangeSpec := { name := "hexaFixed", fn := fun _ => fun
  | [d] => { results := [.lit (.bool true)], args := [d] }
  | _ => none }
def hexaFixedRow : OpenClaim := { program := "ytkanjdllaikoaaadoor", sum := "85a3ac2e4df677269ed83a64af19be006452c4e4aa20a1caaf22e11605cad6da", func := "waybill/waybilllaw08.HexaFixed", spec := "hexaFixed", inPlace := ["internal/abi.NoEscape", "internal/bytealg.MakeNoZero"], unfollowed := true, recurses := true, named := ["unicode/utf8.first", "unicode/utf8.acceptRanges", "unicode.CaseRanges", "waybill/keccak.first", "waybill/waybillref02.rounds", "waybill/waybillref02.turns"], apart := false, laid := [("unicode/utf8.acceptRanges", laid_unicode_utf8_acceptRanges), ("waybill/keccak.first", laid_waybill_keccak_first), ("waybill/waybillref02.rounds", laid_waybill_waybillref02_rounds), ("waybill/waybillref02.turns", laid_waybill_waybillref02_turns), ("unicode.CaseRanges", laid_unicode_CaseRanges), ("unicode/utf8.first", laid_unicode_utf8_first)] }
def HexaFixedSaid : Prop := hexaFixedRow.holds Tryd.pinned (OpenSpec.ofChange hexaFixedSpec)

/-- ITS FALSE NEIGHBOUR: 'it returns false'. Refute it at one input. -/
def hexaFixedWrong : ChangeSpec := { name := "hexaFixed", fn := fun _ => fun
  | [d] => { results := [.lit (.bool false)], args := [d] }
  | _ => none }
def HexaFixedWrongFalsely : Prop := hexaFixedRow.holds Tryd.pinned (OpenSpec.ofChange hexaFixedWrong)

/-- 'waybilllaw08.HexaBack': WHATEVER THE INPUT: true; the input reads as it did. -/
def hexaBackSpec : ChangeSpec := { name := "hexaBack", fn := fun _ => fun
  | [d1, d2, d3, d4, d5] => { results := [.lit (.bool true)], args := [d1, d2, d3, d4, d5] }
  | _ => none }
def hexaBackRow : OpenClaim := { program := "ytkanjdllaikoaaadoor", sum := "85a3ac2e4df677269ed83a64af19be006452c4e4aa20a1caaf22e11605cad6da", func := "waybill/waybilllaw08.HexaBack", spec := "hexaBack", inPlace := ["internal/abi.NoEscape", "internal/bytealg.IndexByteString", "internal/bytealg.IndexString", "internal/bytealg.MakeNoZero"], unfollowed := true, recurses := true, named := ["unicode/utf8.first", "unicode/utf8.acceptRanges", "waybill/keccak.first", "unicode.CaseRanges", "internal/bytealg.MaxLen"], apart := false, laid := [("unicode/utf8.acceptRanges", laid_unicode_utf8_acceptRanges), ("waybill/keccak.first", laid_waybill_keccak_first), ("unicode.CaseRanges", laid_unicode_CaseRanges), ("unicode/utf8.first", laid_unicode_utf8_first)] }
def HexaBackSaid : Prop := hexaBackRow.holds Tryd.pinned (OpenSpec.ofChange hexaBackSpec)

/-- ITS FALSE NEIGHBOUR: 'it returns false'. Refute it at one input. -/
def hexaBackWrong : ChangeSpec := { name := "hexaBack", fn := fun _ => fun
  | [d1, d2, d3, d4, d5] => { results := [.lit (.bool false)], args := [d1, d2, d3, d4, d5] }
  | _ => none }
def HexaBackWrongFalsely : Prop := hexaBackRow.holds Tryd.pinned (OpenSpec.ofChange hexaBackWrong)

/-- 'waybilllaw08.HexaOne': WHATEVER THE INPUT: true; the input reads as it did. -/
def hexaOneSpec : ChangeSpec := { name := "hexaOne", fn := fun _ => fun
  | [d] => { results := [.lit (.bool true)], args := [d] }
  | _ => none }
def hexaOneRow : OpenClaim := { program := "ytkanjdllaikoaaadoor", sum := "85a3ac2e4df677269ed83a64af19be006452c4e4aa20a1caaf22e11605cad6da", func := "waybill/waybilllaw08.HexaOne", spec := "hexaOne", inPlace := ["internal/abi.NoEscape", "internal/bytealg.IndexByteString", "internal/bytealg.IndexString", "internal/bytealg.MakeNoZero"], unfollowed := true, recurses := true, named := ["unicode/utf8.first", "unicode/utf8.acceptRanges", "unicode.CaseRanges", "waybill/keccak.first", "internal/bytealg.MaxLen"], apart := false, laid := [("unicode/utf8.acceptRanges", laid_unicode_utf8_acceptRanges), ("waybill/keccak.first", laid_waybill_keccak_first), ("unicode.CaseRanges", laid_unicode_CaseRanges), ("unicode/utf8.first", laid_unicode_utf8_first)] }
def HexaOneSaid : Prop := hexaOneRow.holds Tryd.pinned (OpenSpec.ofChange hexaOneSpec)

/-- ITS FALSE NEIGHBOUR: 'it returns false'. Refute it at one input. -/
def hexaOneWrong : ChangeSpec := { name := "hexaOne", fn := fun _ => fun
  | [d] => { results := [.lit (.bool false)], args := [d] }
  | _ => none }
def HexaOneWrongFalsely : Prop := hexaOneRow.holds Tryd.pinned (OpenSpec.ofChange hexaOneWrong)

/- THE SECOND FORM. 'bulk': how many values and letters a reading holds, each counted each time it is reached (what is shared counts as often as it is met; a slice's spare places count too). A statement '..UptoSaid' is the law's where the arguments, and the package variables that the reading takes, are together of bulk at most 1048576: NARROWER than '..Said'. Prove '..Said' where nothing that the law and all that it calls make is longer than what came in: it says more and counts as full. Else prove '..UptoSaid'. A law counts once. -/
mutual
def uptoBulk {H : Type} : DataW H → Nat
  | .lit (.string bytes) => bytes.length + 1
  | .lit _ => 1
  | .nil => 1
  | .ptr d => uptoBulk d + 1
  | .slice elems spare => uptoBulkAll elems + uptoBulkAll spare + 1
  | .agg parts => uptoBulkAll parts + 1
  | .iface _ d => uptoBulk d + 1
  | .map entries => uptoBulkEntries entries + 1
  | .held _ => 1
def uptoBulkAll {H : Type} : List (DataW H) → Nat
  | [] => 0
  | d :: r => uptoBulk d + uptoBulkAll r
def uptoBulkEntries {H : Type} : List (Lit × DataW H) → Nat
  | [] => 0
  | x :: r => uptoBulkEntry x + uptoBulkEntries r
def uptoBulkEntry {H : Type} : Lit × DataW H → Nat
  | (.string bytes, d) => bytes.length + uptoBulk d + 1
  | (_, d) => uptoBulk d + 1
 end
def uptoSmall : (H : Type) → List (DataW H) → Bool := fun _ ds => decide (uptoBulkAll ds ≤ 1048576)
def OpenSpec.upto (s : _root_.Go.ChangeSpec) : _root_.Go.OpenSpec := { _root_.Go.OpenSpec.ofChange s with cond := some uptoSmall }

/-- 'waybilllaw08.HexaWrites', WHERE WHAT IT READS IS OF BULK AT MOST 1048576: true; the input reads as it did. -/
def hexaWritesUptoRow : OpenClaim := { program := "ytkanjdllaikoaaadoor", sum := "85a3ac2e4df677269ed83a64af19be006452c4e4aa20a1caaf22e11605cad6da", func := "waybill/waybilllaw08.HexaWrites", spec := "hexaWrites", inPlace := ["internal/abi.NoEscape", "internal/bytealg.IndexByteString", "internal/bytealg.IndexString"], named := ["unicode/utf8.first", "unicode/utf8.acceptRanges", "waybill/keccak.first", "waybill/waybillref02.rounds", "waybill/waybillref02.turns", "internal/bytealg.MaxLen"], apart := false, laid := [("unicode/utf8.acceptRanges", laid_unicode_utf8_acceptRanges), ("waybill/keccak.first", laid_waybill_keccak_first), ("waybill/waybillref02.rounds", laid_waybill_waybillref02_rounds), ("waybill/waybillref02.turns", laid_waybill_waybillref02_turns), ("unicode/utf8.first", laid_unicode_utf8_first)], narrowed := true }
def HexaWritesUptoSaid : Prop := hexaWritesUptoRow.holds Tryd.pinned (OpenSpec.upto hexaWritesSpec)

/-- 'waybilllaw08.HexaCase', WHERE WHAT IT READS IS OF BULK AT MOST 1048576: true; the input reads as it did. -/
def hexaCaseUptoRow : OpenClaim := { program := "ytkanjdllaikoaaadoor", sum := "85a3ac2e4df677269ed83a64af19be006452c4e4aa20a1caaf22e11605cad6da", func := "waybill/waybilllaw08.HexaCase", spec := "hexaCase", inPlace := ["internal/abi.NoEscape", "internal/bytealg.MakeNoZero"], unfollowed := true, recurses := true, named := ["waybill/keccak.first", "unicode/utf8.first", "unicode/utf8.acceptRanges", "unicode.CaseRanges"], apart := false, laid := [("unicode/utf8.acceptRanges", laid_unicode_utf8_acceptRanges), ("waybill/keccak.first", laid_waybill_keccak_first), ("unicode.CaseRanges", laid_unicode_CaseRanges), ("unicode/utf8.first", laid_unicode_utf8_first)], narrowed := true }
def HexaCaseUptoSaid : Prop := hexaCaseUptoRow.holds Tryd.pinned (OpenSpec.upto hexaCaseSpec)

/-- 'waybilllaw08.HexaFixed', WHERE WHAT IT READS IS OF BULK AT MOST 1048576: true; the input reads as it did. -/
def hexaFixedUptoRow : OpenClaim := { program := "ytkanjdllaikoaaadoor", sum := "85a3ac2e4df677269ed83a64af19be006452c4e4aa20a1caaf22e11605cad6da", func := "waybill/waybilllaw08.HexaFixed", spec := "hexaFixed", inPlace := ["internal/abi.NoEscape", "internal/bytealg.MakeNoZero"], unfollowed := true, recurses := true, named := ["unicode/utf8.first", "unicode/utf8.acceptRanges", "unicode.CaseRanges", "waybill/keccak.first", "waybill/waybillref02.rounds", "waybill/waybillref02.turns"], apart := false, laid := [("unicode/utf8.acceptRanges", laid_unicode_utf8_acceptRanges), ("waybill/keccak.first", laid_waybill_keccak_first), ("waybill/waybillref02.rounds", laid_waybill_waybillref02_rounds), ("waybill/waybillref02.turns", laid_waybill_waybillref02_turns), ("unicode.CaseRanges", laid_unicode_CaseRanges), ("unicode/utf8.first", laid_unicode_utf8_first)], narrowed := true }
def HexaFixedUptoSaid : Prop := hexaFixedUptoRow.holds Tryd.pinned (OpenSpec.upto hexaFixedSpec)

/-- 'waybilllaw08.HexaBack', WHERE WHAT IT READS IS OF BULK AT MOST 1048576: true; the input reads as it did. -/
def hexaBackUptoRow : OpenClaim := { program := "ytkanjdllaikoaaadoor", sum := "85a3ac2e4df677269ed83a64af19be006452c4e4aa20a1caaf22e11605cad6da", func := "waybill/waybilllaw08.HexaBack", spec := "hexaBack", inPlace := ["internal/abi.NoEscape", "internal/bytealg.IndexByteString", "internal/bytealg.IndexString", "internal/bytealg.MakeNoZero"], unfollowed := true, recurses := true, named := ["unicode/utf8.first", "unicode/utf8.acceptRanges", "waybill/keccak.first", "unicode.CaseRanges", "internal/bytealg.MaxLen"], apart := false, laid := [("unicode/utf8.acceptRanges", laid_unicode_utf8_acceptRanges), ("waybill/keccak.first", laid_waybill_keccak_first), ("unicode.CaseRanges", laid_unicode_CaseRanges), ("unicode/utf8.first", laid_unicode_utf8_first)], narrowed := true }
def HexaBackUptoSaid : Prop := hexaBackUptoRow.holds Tryd.pinned (OpenSpec.upto hexaBackSpec)

/-- 'waybilllaw08.HexaOne', WHERE WHAT IT READS IS OF BULK AT MOST 1048576: true; the input reads as it did. -/
def hexaOneUptoRow : OpenClaim := { program := "ytkanjdllaikoaaadoor", sum := "85a3ac2e4df677269ed83a64af19be006452c4e4aa20a1caaf22e11605cad6da", func := "waybill/waybilllaw08.HexaOne", spec := "hexaOne", inPlace := ["internal/abi.NoEscape", "internal/bytealg.IndexByteString", "internal/bytealg.IndexString", "internal/bytealg.MakeNoZero"], unfollowed := true, recurses := true, named := ["unicode/utf8.first", "unicode/utf8.acceptRanges", "unicode.CaseRanges", "waybill/keccak.first", "internal/bytealg.MaxLen"], apart := false, laid := [("unicode/utf8.acceptRanges", laid_unicode_utf8_acceptRanges), ("waybill/keccak.first", laid_waybill_keccak_first), ("unicode.CaseRanges", laid_unicode_CaseRanges), ("unicode/utf8.first", laid_unicode_utf8_first)], narrowed := true }
def HexaOneUptoSaid : Prop := hexaOneUptoRow.holds Tryd.pinned (OpenSpec.upto hexaOneSpec)

end Rows
end Go.Proofs.YtkanjdllaikoaaaDoor
