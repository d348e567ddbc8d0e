/-
  No cell of these rows narrows 'for every input' (looked for: loops, veiled, ifaces, maps, wideKeys, modest, calm, conditions, laid).
  DERIVED. THE GIVEN ROWS OF THIS SEAT. 4 by the template 'for every input the law returns true; each argument reads behind the call as it read before'; 0 by the template 'total and deterministic' (their statements: YtcmjdmehooenkaaTotals.lean).
  GIVEN WITH THE SEED: the statements are not yours to turn. If you find one false, say at which input.
  Laid BY PROGRAM, IN A SANDBOX (cutbox-rows.mjs): the forced cells as the released guide's own fill.sh prints them over the translation 2238da09be6b3f37… (all of the seat's roots in one cut). By AI agents, Wed Nov 11 2026. No macro, syntax, notation, axiom, sorry.
-/
import Derived.Test.YtcmjdmehooenkaaChecked
import GoSem.Claim
import GoSem.ClaimJoined
import GoSem.ClaimMapViews
import Derived.JoinedTies
import Derived.KernelRfl
namespace Go.Proofs.Ytcmjdmehooenkaa
/- THE CELL 'sum', in the pinned program and in every row, IS THE sha256 OF THE DUMP (.gsa) THAT YtcmjdmehooenkaaProg.lean LOADS. Nothing in Lean hashes anything: it is a label: what it is worth is what the hold of that sum in a sandbox is worth. -/
noncomputable def Try.pinned : Pinned := { name := "ytcmjdmehooenkaa", sum := "2238da09be6b3f37be74785b55c9b1f08ee456f57154cb8799d4d740ed5b64a0", checked := Try.checked }
namespace Rows
def none {H : Type} : Left H := { results := [], args := [] }

/-- 'waybilllaw18.FeesBases': WHATEVER THE INPUT: true; the input reads as it did. -/
def feesBasesSpec : ChangeSpec := { name := "feesBases", fn := fun _ => fun
  | [d1, d2, d3] => { results := [.lit (.bool true)], args := [d1, d2, d3] }
  | _ => none }
def feesBasesRow : OpenClaim := { program := "ytcmjdmehooenkaa", sum := "2238da09be6b3f37be74785b55c9b1f08ee456f57154cb8799d4d740ed5b64a0", func := "waybill/waybilllaw18.FeesBases", spec := "feesBases", inPlace := ["math/bits.Add64", "math/bits.Sub64"], recurses := true, apart := false }
def FeesBasesSaid : Prop := feesBasesRow.holds Try.pinned (OpenSpec.ofChange feesBasesSpec)

/-- ITS FALSE NEIGHBOUR: 'it returns false'. Refute it at one input. -/
def feesBasesWrong : ChangeSpec := { name := "feesBases", fn := fun _ => fun
  | [d1, d2, d3] => { results := [.lit (.bool false)], args := [d1, d2, d3] }
  | _ => none }
def FeesBasesWrongFalsely : Prop := feesBasesRow.holds Try.pinned (OpenSpec.ofChange feesBasesWrong)

/-- 'waybilllaw18.FeesSteady': WHATEVER THE INPUT: true; the input reads as it did. -/
def feesSteadySpec : ChangeSpec := { name := "feesSteady", fn := fun _ => fun
  | [d1, d2, d3] => { results := [.lit (.bool true)], args := [d1, d2, d3] }
  | _ => none }
def feesSteadyRow : OpenClaim := { program := "ytcmjdmehooenkaa", sum := "2238da09be6b3f37be74785b55c9b1f08ee456f57154cb8799d4d740ed5b64a0", func := "waybill/waybilllaw18.FeesSteady", spec := "feesSteady", inPlace := ["math/bits.Add64", "math/bits.Sub64"], recurses := true, apart := false }
def FeesSteadySaid : Prop := feesSteadyRow.holds Try.pinned (OpenSpec.ofChange feesSteadySpec)

/-- ITS FALSE NEIGHBOUR: 'it returns false'. Refute it at one input. -/
def feesSteadyWrong : ChangeSpec := { name := "feesSteady", fn := fun _ => fun
  | [d1, d2, d3] => { results := [.lit (.bool false)], args := [d1, d2, d3] }
  | _ => none }
def FeesSteadyWrongFalsely : Prop := feesSteadyRow.holds Try.pinned (OpenSpec.ofChange feesSteadyWrong)

/-- 'waybilllaw18.FeesBlobs': WHATEVER THE INPUT: true; the input reads as it did. -/
def feesBlobsSpec : ChangeSpec := { name := "feesBlobs", fn := fun _ => fun
  | [d1, d2, d3, d4] => { results := [.lit (.bool true)], args := [d1, d2, d3, d4] }
  | _ => none }
def feesBlobsRow : OpenClaim := { program := "ytcmjdmehooenkaa", sum := "2238da09be6b3f37be74785b55c9b1f08ee456f57154cb8799d4d740ed5b64a0", func := "waybill/waybilllaw18.FeesBlobs", spec := "feesBlobs", inPlace := ["math/bits.Add64", "math/bits.Sub64"], recurses := true, apart := false }
def FeesBlobsSaid : Prop := feesBlobsRow.holds Try.pinned (OpenSpec.ofChange feesBlobsSpec)

/-- ITS FALSE NEIGHBOUR: 'it returns false'. Refute it at one input. -/
def feesBlobsWrong : ChangeSpec := { name := "feesBlobs", fn := fun _ => fun
  | [d1, d2, d3, d4] => { results := [.lit (.bool false)], args := [d1, d2, d3, d4] }
  | _ => none }
def FeesBlobsWrongFalsely : Prop := feesBlobsRow.holds Try.pinned (OpenSpec.ofChange feesBlobsWrong)

/-- 'waybilllaw18.FeesRising': WHATEVER THE INPUT: true; the input reads as it did. -/
def feesRisingSpec : ChangeSpec := { name := "feesRising", fn := fun _ => fun
  | [d1, d2, d3, d4] => { results := [.lit (.bool true)], args := [d1, d2, d3, d4] }
  | _ => none }
def feesRisingRow : OpenClaim := { program := "ytcmjdmehooenkaa", sum := "2238da09be6b3f37be74785b55c9b1f08ee456f57154cb8799d4d740ed5b64a0", func := "waybill/waybilllaw18.FeesRising", spec := "feesRising", inPlace := ["math/bits.Add64", "math/bits.Sub64"], recurses := true, apart := false }
def FeesRisingSaid : Prop := feesRisingRow.holds Try.pinned (OpenSpec.ofChange feesRisingSpec)

/-- ITS FALSE NEIGHBOUR: 'it returns false'. Refute it at one input. -/
def feesRisingWrong : ChangeSpec := { name := "feesRising", fn := fun _ => fun
  | [d1, d2, d3, d4] => { results := [.lit (.bool false)], args := [d1, d2, d3, d4] }
  | _ => none }
def FeesRisingWrongFalsely : Prop := feesRisingRow.holds Try.pinned (OpenSpec.ofChange feesRisingWrong)

/- THE SECOND FORM. 'bulk': how many values and letters a reading holds, each counted each time it is reached (what is shared counts as often as it is met; a slice's spare places count too). A statement '..UptoSaid' is the law's where the arguments, and the package variables that the reading takes, are together of bulk at most 1048576: NARROWER than '..Said'. Prove '..Said' where nothing that the law and all that it calls make is longer than what came in: it says more and counts as full. Else prove '..UptoSaid'. A law counts once. -/
mutual
def uptoBulk {H : Type} : DataW H → Nat
  | .lit (.string bytes) => bytes.length + 1
  | .lit _ => 1
  | .nil => 1
  | .ptr d => uptoBulk d + 1
  | .slice elems spare => uptoBulkAll elems + uptoBulkAll spare + 1
  | .agg parts => uptoBulkAll parts + 1
  | .iface _ d => uptoBulk d + 1
  | .map entries => uptoBulkEntries entries + 1
  | .held _ => 1
def uptoBulkAll {H : Type} : List (DataW H) → Nat
  | [] => 0
  | d :: r => uptoBulk d + uptoBulkAll r
def uptoBulkEntries {H : Type} : List (Lit × DataW H) → Nat
  | [] => 0
  | x :: r => uptoBulkEntry x + uptoBulkEntries r
def uptoBulkEntry {H : Type} : Lit × DataW H → Nat
  | (.string bytes, d) => bytes.length + uptoBulk d + 1
  | (_, d) => uptoBulk d + 1
 end
def uptoSmall : (H : Type) → List (DataW H) → Bool := fun _ ds => decide (uptoBulkAll ds ≤ 1048576)
def OpenSpec.upto (s : _root_.Go.ChangeSpec) : _root_.Go.OpenSpec := { _root_.Go.OpenSpec.ofChange s with cond := some uptoSmall }

/-- 'waybilllaw18.FeesBases', WHERE WHAT IT READS IS OF BULK AT MOST 1048576: true; the input reads as it did. -/
def feesBasesUptoRow : OpenClaim := { program := "ytcmjdmehooenkaa", sum := "2238da09be6b3f37be74785b55c9b1f08ee456f57154cb8799d4d740ed5b64a0", func := "waybill/waybilllaw18.FeesBases", spec := "feesBases", inPlace := ["math/bits.Add64", "math/bits.Sub64"], recurses := true, apart := false, narrowed := true }
def FeesBasesUptoSaid : Prop := feesBasesUptoRow.holds Try.pinned (OpenSpec.upto feesBasesSpec)

/-- 'waybilllaw18.FeesSteady', WHERE WHAT IT READS IS OF BULK AT MOST 1048576: true; the input reads as it did. -/
def feesSteadyUptoRow : OpenClaim := { program := "ytcmjdmehooenkaa", sum := "2238da09be6b3f37be74785b55c9b1f08ee456f57154cb8799d4d740ed5b64a0", func := "waybill/waybilllaw18.FeesSteady", spec := "feesSteady", inPlace := ["math/bits.Add64", "math/bits.Sub64"], recurses := true, apart := false, narrowed := true }
def FeesSteadyUptoSaid : Prop := feesSteadyUptoRow.holds Try.pinned (OpenSpec.upto feesSteadySpec)

/-- 'waybilllaw18.FeesBlobs', WHERE WHAT IT READS IS OF BULK AT MOST 1048576: true; the input reads as it did. -/
def feesBlobsUptoRow : OpenClaim := { program := "ytcmjdmehooenkaa", sum := "2238da09be6b3f37be74785b55c9b1f08ee456f57154cb8799d4d740ed5b64a0", func := "waybill/waybilllaw18.FeesBlobs", spec := "feesBlobs", inPlace := ["math/bits.Add64", "math/bits.Sub64"], recurses := true, apart := false, narrowed := true }
def FeesBlobsUptoSaid : Prop := feesBlobsUptoRow.holds Try.pinned (OpenSpec.upto feesBlobsSpec)

/-- 'waybilllaw18.FeesRising', WHERE WHAT IT READS IS OF BULK AT MOST 1048576: true; the input reads as it did. -/
def feesRisingUptoRow : OpenClaim := { program := "ytcmjdmehooenkaa", sum := "2238da09be6b3f37be74785b55c9b1f08ee456f57154cb8799d4d740ed5b64a0", func := "waybill/waybilllaw18.FeesRising", spec := "feesRising", inPlace := ["math/bits.Add64", "math/bits.Sub64"], recurses := true, apart := false, narrowed := true }
def FeesRisingUptoSaid : Prop := feesRisingUptoRow.holds Try.pinned (OpenSpec.upto feesRisingSpec)

end Rows
end Go.Proofs.Ytcmjdmehooenkaa
