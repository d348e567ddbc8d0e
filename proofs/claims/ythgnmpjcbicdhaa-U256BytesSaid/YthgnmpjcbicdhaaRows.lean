/-
  No cell of these rows narrows 'for every input' (looked for: loops, veiled, ifaces, maps, wideKeys, modest, calm, conditions, laid).
  DERIVED. THE GIVEN ROWS OF THIS SEAT. 9 by the template 'for every input the law returns true; each argument reads behind the call as it read before'; 0 by the template 'total and deterministic' (their statements: YthgnmpjcbicdhaaTotals.lean).
  GIVEN WITH THE SEED: the statements are not yours to turn. If you find one false, say at which input.
  Laid BY PROGRAM, IN A SANDBOX (cutbox-rows.mjs): the forced cells as the released guide's own fill.sh prints them over the translation f3b161b0c9a02e8a… (all of the seat's roots in one cut). By AI agents, Wed Nov 11 2026. No macro, syntax, notation, axiom, sorry.
-/
import Derived.Test.YthgnmpjcbicdhaaChecked
import GoSem.Claim
import GoSem.ClaimJoined
import GoSem.ClaimMapViews
import Derived.JoinedTies
import Derived.KernelRfl
namespace Go.Proofs.Ythgnmpjcbicdhaa
/- THE CELL 'sum', in the pinned program and in every row, IS THE sha256 OF THE DUMP (.gsa) THAT YthgnmpjcbicdhaaProg.lean LOADS. Nothing in Lean hashes anything: it is a label: what it is worth is what the hold of that sum in a sandbox is worth. -/
noncomputable def Try.pinned : Pinned := { name := "ythgnmpjcbicdhaa", sum := "f3b161b0c9a02e8a4fe42e46cc6f4bf8d03a7ac8fdebebdbd7e7caa639a79fe4", checked := Try.checked }
namespace Rows
def none {H : Type} : Left H := { results := [], args := [] }

/-- 'waybilllaw01.U256Bytes': WHATEVER THE INPUT: true; the input reads as it did. -/
def u256BytesSpec : ChangeSpec := { name := "u256Bytes", fn := fun _ => fun
  | [d1, d2] => { results := [.lit (.bool true)], args := [d1, d2] }
  | _ => none }
def u256BytesRow : OpenClaim := { program := "ythgnmpjcbicdhaa", sum := "f3b161b0c9a02e8a4fe42e46cc6f4bf8d03a7ac8fdebebdbd7e7caa639a79fe4", func := "waybill/waybilllaw01.U256Bytes", spec := "u256Bytes", apart := false }
def U256BytesSaid : Prop := u256BytesRow.holds Try.pinned (OpenSpec.ofChange u256BytesSpec)

/-- ITS FALSE NEIGHBOUR: 'it returns false'. Refute it at one input. -/
def u256BytesWrong : ChangeSpec := { name := "u256Bytes", fn := fun _ => fun
  | [d1, d2] => { results := [.lit (.bool false)], args := [d1, d2] }
  | _ => none }
def U256BytesWrongFalsely : Prop := u256BytesRow.holds Try.pinned (OpenSpec.ofChange u256BytesWrong)

/-- 'waybilllaw01.U256Bits': WHATEVER THE INPUT: true; the input reads as it did. -/
def u256BitsSpec : ChangeSpec := { name := "u256Bits", fn := fun _ => fun
  | [d1, d2, d3] => { results := [.lit (.bool true)], args := [d1, d2, d3] }
  | _ => none }
def u256BitsRow : OpenClaim := { program := "ythgnmpjcbicdhaa", sum := "f3b161b0c9a02e8a4fe42e46cc6f4bf8d03a7ac8fdebebdbd7e7caa639a79fe4", func := "waybill/waybilllaw01.U256Bits", spec := "u256Bits", recurses := true, apart := false }
def U256BitsSaid : Prop := u256BitsRow.holds Try.pinned (OpenSpec.ofChange u256BitsSpec)

/-- ITS FALSE NEIGHBOUR: 'it returns false'. Refute it at one input. -/
def u256BitsWrong : ChangeSpec := { name := "u256Bits", fn := fun _ => fun
  | [d1, d2, d3] => { results := [.lit (.bool false)], args := [d1, d2, d3] }
  | _ => none }
def U256BitsWrongFalsely : Prop := u256BitsRow.holds Try.pinned (OpenSpec.ofChange u256BitsWrong)

/-- 'waybilllaw01.U256Ring': WHATEVER THE INPUT: true; the input reads as it did. -/
def u256RingSpec : ChangeSpec := { name := "u256Ring", fn := fun _ => fun
  | [d1, d2, d3] => { results := [.lit (.bool true)], args := [d1, d2, d3] }
  | _ => none }
def u256RingRow : OpenClaim := { program := "ythgnmpjcbicdhaa", sum := "f3b161b0c9a02e8a4fe42e46cc6f4bf8d03a7ac8fdebebdbd7e7caa639a79fe4", func := "waybill/waybilllaw01.U256Ring", spec := "u256Ring", inPlace := ["math/bits.Add64", "math/bits.Sub64"], apart := false }
def U256RingSaid : Prop := u256RingRow.holds Try.pinned (OpenSpec.ofChange u256RingSpec)

/-- ITS FALSE NEIGHBOUR: 'it returns false'. Refute it at one input. -/
def u256RingWrong : ChangeSpec := { name := "u256Ring", fn := fun _ => fun
  | [d1, d2, d3] => { results := [.lit (.bool false)], args := [d1, d2, d3] }
  | _ => none }
def U256RingWrongFalsely : Prop := u256RingRow.holds Try.pinned (OpenSpec.ofChange u256RingWrong)

/-- 'waybilllaw01.U256Roots': WHATEVER THE INPUT: true; the input reads as it did. -/
def u256RootsSpec : ChangeSpec := { name := "u256Roots", fn := fun _ => fun
  | [d] => { results := [.lit (.bool true)], args := [d] }
  | _ => none }
def u256RootsRow : OpenClaim := { program := "ythgnmpjcbicdhaa", sum := "f3b161b0c9a02e8a4fe42e46cc6f4bf8d03a7ac8fdebebdbd7e7caa639a79fe4", func := "waybill/waybilllaw01.U256Roots", spec := "u256Roots", inPlace := ["math/bits.Add64", "math/bits.Sub64"], apart := false }
def U256RootsSaid : Prop := u256RootsRow.holds Try.pinned (OpenSpec.ofChange u256RootsSpec)

/-- ITS FALSE NEIGHBOUR: 'it returns false'. Refute it at one input. -/
def u256RootsWrong : ChangeSpec := { name := "u256Roots", fn := fun _ => fun
  | [d] => { results := [.lit (.bool false)], args := [d] }
  | _ => none }
def U256RootsWrongFalsely : Prop := u256RootsRow.holds Try.pinned (OpenSpec.ofChange u256RootsWrong)

/-- 'waybilllaw01.U256Powers': WHATEVER THE INPUT: true; the input reads as it did. -/
def u256PowersSpec : ChangeSpec := { name := "u256Powers", fn := fun _ => fun
  | [d1, d2] => { results := [.lit (.bool true)], args := [d1, d2] }
  | _ => none }
def u256PowersRow : OpenClaim := { program := "ythgnmpjcbicdhaa", sum := "f3b161b0c9a02e8a4fe42e46cc6f4bf8d03a7ac8fdebebdbd7e7caa639a79fe4", func := "waybill/waybilllaw01.U256Powers", spec := "u256Powers", inPlace := ["math/bits.Add64", "math/bits.Sub64"], apart := false }
def U256PowersSaid : Prop := u256PowersRow.holds Try.pinned (OpenSpec.ofChange u256PowersSpec)

/-- ITS FALSE NEIGHBOUR: 'it returns false'. Refute it at one input. -/
def u256PowersWrong : ChangeSpec := { name := "u256Powers", fn := fun _ => fun
  | [d1, d2] => { results := [.lit (.bool false)], args := [d1, d2] }
  | _ => none }
def U256PowersWrongFalsely : Prop := u256PowersRow.holds Try.pinned (OpenSpec.ofChange u256PowersWrong)

/-- 'waybilllaw01.U256Arith': WHATEVER THE INPUT: true; the input reads as it did. -/
def u256ArithSpec : ChangeSpec := { name := "u256Arith", fn := fun _ => fun
  | [d1, d2] => { results := [.lit (.bool true)], args := [d1, d2] }
  | _ => none }
def u256ArithRow : OpenClaim := { program := "ythgnmpjcbicdhaa", sum := "f3b161b0c9a02e8a4fe42e46cc6f4bf8d03a7ac8fdebebdbd7e7caa639a79fe4", func := "waybill/waybilllaw01.U256Arith", spec := "u256Arith", inPlace := ["math/bits.Add64", "math/bits.Sub64"], recurses := true, apart := false }
def U256ArithSaid : Prop := u256ArithRow.holds Try.pinned (OpenSpec.ofChange u256ArithSpec)

/-- ITS FALSE NEIGHBOUR: 'it returns false'. Refute it at one input. -/
def u256ArithWrong : ChangeSpec := { name := "u256Arith", fn := fun _ => fun
  | [d1, d2] => { results := [.lit (.bool false)], args := [d1, d2] }
  | _ => none }
def U256ArithWrongFalsely : Prop := u256ArithRow.holds Try.pinned (OpenSpec.ofChange u256ArithWrong)

/-- 'waybilllaw01.U256Rests': WHATEVER THE INPUT: true; the input reads as it did. -/
def u256RestsSpec : ChangeSpec := { name := "u256Rests", fn := fun _ => fun
  | [d1, d2, d3] => { results := [.lit (.bool true)], args := [d1, d2, d3] }
  | _ => none }
def u256RestsRow : OpenClaim := { program := "ythgnmpjcbicdhaa", sum := "f3b161b0c9a02e8a4fe42e46cc6f4bf8d03a7ac8fdebebdbd7e7caa639a79fe4", func := "waybill/waybilllaw01.U256Rests", spec := "u256Rests", inPlace := ["math/bits.Sub64", "math/bits.Add64"], recurses := true, apart := false }
def U256RestsSaid : Prop := u256RestsRow.holds Try.pinned (OpenSpec.ofChange u256RestsSpec)

/-- ITS FALSE NEIGHBOUR: 'it returns false'. Refute it at one input. -/
def u256RestsWrong : ChangeSpec := { name := "u256Rests", fn := fun _ => fun
  | [d1, d2, d3] => { results := [.lit (.bool false)], args := [d1, d2, d3] }
  | _ => none }
def U256RestsWrongFalsely : Prop := u256RestsRow.holds Try.pinned (OpenSpec.ofChange u256RestsWrong)

/-- 'waybilllaw01.U256Wide': WHATEVER THE INPUT: true; the input reads as it did. -/
def u256WideSpec : ChangeSpec := { name := "u256Wide", fn := fun _ => fun
  | [d1, d2, d3] => { results := [.lit (.bool true)], args := [d1, d2, d3] }
  | _ => none }
def u256WideRow : OpenClaim := { program := "ythgnmpjcbicdhaa", sum := "f3b161b0c9a02e8a4fe42e46cc6f4bf8d03a7ac8fdebebdbd7e7caa639a79fe4", func := "waybill/waybilllaw01.U256Wide", spec := "u256Wide", inPlace := ["math/bits.Sub64", "math/bits.Add64"], recurses := true, apart := false }
def U256WideSaid : Prop := u256WideRow.holds Try.pinned (OpenSpec.ofChange u256WideSpec)

/-- ITS FALSE NEIGHBOUR: 'it returns false'. Refute it at one input. -/
def u256WideWrong : ChangeSpec := { name := "u256Wide", fn := fun _ => fun
  | [d1, d2, d3] => { results := [.lit (.bool false)], args := [d1, d2, d3] }
  | _ => none }
def U256WideWrongFalsely : Prop := u256WideRow.holds Try.pinned (OpenSpec.ofChange u256WideWrong)

/-- 'waybilllaw01.U256Shifts': WHATEVER THE INPUT: true; the input reads as it did. -/
def u256ShiftsSpec : ChangeSpec := { name := "u256Shifts", fn := fun _ => fun
  | [d1, d2] => { results := [.lit (.bool true)], args := [d1, d2] }
  | _ => none }
def u256ShiftsRow : OpenClaim := { program := "ythgnmpjcbicdhaa", sum := "f3b161b0c9a02e8a4fe42e46cc6f4bf8d03a7ac8fdebebdbd7e7caa639a79fe4", func := "waybill/waybilllaw01.U256Shifts", spec := "u256Shifts", inPlace := ["math/bits.Add64", "math/bits.Sub64"], recurses := true, apart := false }
def U256ShiftsSaid : Prop := u256ShiftsRow.holds Try.pinned (OpenSpec.ofChange u256ShiftsSpec)

/-- ITS FALSE NEIGHBOUR: 'it returns false'. Refute it at one input. -/
def u256ShiftsWrong : ChangeSpec := { name := "u256Shifts", fn := fun _ => fun
  | [d1, d2] => { results := [.lit (.bool false)], args := [d1, d2] }
  | _ => none }
def U256ShiftsWrongFalsely : Prop := u256ShiftsRow.holds Try.pinned (OpenSpec.ofChange u256ShiftsWrong)

/- THE SECOND FORM. 'bulk': how many values and letters a reading holds, each counted each time it is reached (what is shared counts as often as it is met; a slice's spare places count too). A statement '..UptoSaid' is the law's where the arguments, and the package variables that the reading takes, are together of bulk at most 1048576: NARROWER than '..Said'. Prove '..Said' where nothing that the law and all that it calls make is longer than what came in: it says more and counts as full. Else prove '..UptoSaid'. A law counts once. -/
mutual
def uptoBulk {H : Type} : DataW H → Nat
  | .lit (.string bytes) => bytes.length + 1
  | .lit _ => 1
  | .nil => 1
  | .ptr d => uptoBulk d + 1
  | .slice elems spare => uptoBulkAll elems + uptoBulkAll spare + 1
  | .agg parts => uptoBulkAll parts + 1
  | .iface _ d => uptoBulk d + 1
  | .map entries => uptoBulkEntries entries + 1
  | .held _ => 1
def uptoBulkAll {H : Type} : List (DataW H) → Nat
  | [] => 0
  | d :: r => uptoBulk d + uptoBulkAll r
def uptoBulkEntries {H : Type} : List (Lit × DataW H) → Nat
  | [] => 0
  | x :: r => uptoBulkEntry x + uptoBulkEntries r
def uptoBulkEntry {H : Type} : Lit × DataW H → Nat
  | (.string bytes, d) => bytes.length + uptoBulk d + 1
  | (_, d) => uptoBulk d + 1
 end
def uptoSmall : (H : Type) → List (DataW H) → Bool := fun _ ds => decide (uptoBulkAll ds ≤ 1048576)
def OpenSpec.upto (s : _root_.Go.ChangeSpec) : _root_.Go.OpenSpec := { _root_.Go.OpenSpec.ofChange s with cond := some uptoSmall }

/-- 'waybilllaw01.U256Bytes', WHERE WHAT IT READS IS OF BULK AT MOST 1048576: true; the input reads as it did. -/
def u256BytesUptoRow : OpenClaim := { program := "ythgnmpjcbicdhaa", sum := "f3b161b0c9a02e8a4fe42e46cc6f4bf8d03a7ac8fdebebdbd7e7caa639a79fe4", func := "waybill/waybilllaw01.U256Bytes", spec := "u256Bytes", apart := false, narrowed := true }
def U256BytesUptoSaid : Prop := u256BytesUptoRow.holds Try.pinned (OpenSpec.upto u256BytesSpec)

/-- 'waybilllaw01.U256Bits', WHERE WHAT IT READS IS OF BULK AT MOST 1048576: true; the input reads as it did. -/
def u256BitsUptoRow : OpenClaim := { program := "ythgnmpjcbicdhaa", sum := "f3b161b0c9a02e8a4fe42e46cc6f4bf8d03a7ac8fdebebdbd7e7caa639a79fe4", func := "waybill/waybilllaw01.U256Bits", spec := "u256Bits", recurses := true, apart := false, narrowed := true }
def U256BitsUptoSaid : Prop := u256BitsUptoRow.holds Try.pinned (OpenSpec.upto u256BitsSpec)

/-- 'waybilllaw01.U256Ring', WHERE WHAT IT READS IS OF BULK AT MOST 1048576: true; the input reads as it did. -/
def u256RingUptoRow : OpenClaim := { program := "ythgnmpjcbicdhaa", sum := "f3b161b0c9a02e8a4fe42e46cc6f4bf8d03a7ac8fdebebdbd7e7caa639a79fe4", func := "waybill/waybilllaw01.U256Ring", spec := "u256Ring", inPlace := ["math/bits.Add64", "math/bits.Sub64"], apart := false, narrowed := true }
def U256RingUptoSaid : Prop := u256RingUptoRow.holds Try.pinned (OpenSpec.upto u256RingSpec)

/-- 'waybilllaw01.U256Roots', WHERE WHAT IT READS IS OF BULK AT MOST 1048576: true; the input reads as it did. -/
def u256RootsUptoRow : OpenClaim := { program := "ythgnmpjcbicdhaa", sum := "f3b161b0c9a02e8a4fe42e46cc6f4bf8d03a7ac8fdebebdbd7e7caa639a79fe4", func := "waybill/waybilllaw01.U256Roots", spec := "u256Roots", inPlace := ["math/bits.Add64", "math/bits.Sub64"], apart := false, narrowed := true }
def U256RootsUptoSaid : Prop := u256RootsUptoRow.holds Try.pinned (OpenSpec.upto u256RootsSpec)

/-- 'waybilllaw01.U256Powers', WHERE WHAT IT READS IS OF BULK AT MOST 1048576: true; the input reads as it did. -/
def u256PowersUptoRow : OpenClaim := { program := "ythgnmpjcbicdhaa", sum := "f3b161b0c9a02e8a4fe42e46cc6f4bf8d03a7ac8fdebebdbd7e7caa639a79fe4", func := "waybill/waybilllaw01.U256Powers", spec := "u256Powers", inPlace := ["math/bits.Add64", "math/bits.Sub64"], apart := false, narrowed := true }
def U256PowersUptoSaid : Prop := u256PowersUptoRow.holds Try.pinned (OpenSpec.upto u256PowersSpec)

/-- 'waybilllaw01.U256Arith', WHERE WHAT IT READS IS OF BULK AT MOST 1048576: true; the input reads as it did. -/
def u256ArithUptoRow : OpenClaim := { program := "ythgnmpjcbicdhaa", sum := "f3b161b0c9a02e8a4fe42e46cc6f4bf8d03a7ac8fdebebdbd7e7caa639a79fe4", func := "waybill/waybilllaw01.U256Arith", spec := "u256Arith", inPlace := ["math/bits.Add64", "math/bits.Sub64"], recurses := true, apart := false, narrowed := true }
def U256ArithUptoSaid : Prop := u256ArithUptoRow.holds Try.pinned (OpenSpec.upto u256ArithSpec)

/-- 'waybilllaw01.U256Rests', WHERE WHAT IT READS IS OF BULK AT MOST 1048576: true; the input reads as it did. -/
def u256RestsUptoRow : OpenClaim := { program := "ythgnmpjcbicdhaa", sum := "f3b161b0c9a02e8a4fe42e46cc6f4bf8d03a7ac8fdebebdbd7e7caa639a79fe4", func := "waybill/waybilllaw01.U256Rests", spec := "u256Rests", inPlace := ["math/bits.Sub64", "math/bits.Add64"], recurses := true, apart := false, narrowed := true }
def U256RestsUptoSaid : Prop := u256RestsUptoRow.holds Try.pinned (OpenSpec.upto u256RestsSpec)

/-- 'waybilllaw01.U256Wide', WHERE WHAT IT READS IS OF BULK AT MOST 1048576: true; the input reads as it did. -/
def u256WideUptoRow : OpenClaim := { program := "ythgnmpjcbicdhaa", sum := "f3b161b0c9a02e8a4fe42e46cc6f4bf8d03a7ac8fdebebdbd7e7caa639a79fe4", func := "waybill/waybilllaw01.U256Wide", spec := "u256Wide", inPlace := ["math/bits.Sub64", "math/bits.Add64"], recurses := true, apart := false, narrowed := true }
def U256WideUptoSaid : Prop := u256WideUptoRow.holds Try.pinned (OpenSpec.upto u256WideSpec)

/-- 'waybilllaw01.U256Shifts', WHERE WHAT IT READS IS OF BULK AT MOST 1048576: true; the input reads as it did. -/
def u256ShiftsUptoRow : OpenClaim := { program := "ythgnmpjcbicdhaa", sum := "f3b161b0c9a02e8a4fe42e46cc6f4bf8d03a7ac8fdebebdbd7e7caa639a79fe4", func := "waybill/waybilllaw01.U256Shifts", spec := "u256Shifts", inPlace := ["math/bits.Add64", "math/bits.Sub64"], recurses := true, apart := false, narrowed := true }
def U256ShiftsUptoSaid : Prop := u256ShiftsUptoRow.holds Try.pinned (OpenSpec.upto u256ShiftsSpec)

end Rows
end Go.Proofs.Ythgnmpjcbicdhaa
