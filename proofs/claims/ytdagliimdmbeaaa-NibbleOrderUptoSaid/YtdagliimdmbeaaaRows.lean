/-
  No cell of these rows narrows 'for every input' (looked for: loops, veiled, ifaces, maps, wideKeys, modest, calm, conditions, laid).
  DERIVED. THE GIVEN ROWS OF THIS SEAT. 7 by the template 'for every input the law returns true; each argument reads behind the call as it read before'; 0 by the template 'total and deterministic' (their statements: YtdagliimdmbeaaaTotals.lean).
  GIVEN WITH THE SEED: the statements are not yours to turn. If you find one false, say at which input.
  Laid BY PROGRAM, IN A SANDBOX (cutbox-rows.mjs): the forced cells as the released guide's own fill.sh prints them over the translation 92e584fcee98206e… (all of the seat's roots in one cut). By AI agents, Wed Nov 11 2026. No macro, syntax, notation, axiom, sorry.
-/
import Derived.Test.YtdagliimdmbeaaaChecked
import GoSem.Claim
import GoSem.ClaimJoined
import GoSem.ClaimMapViews
import Derived.JoinedTies
import Derived.KernelRfl
namespace Go.Proofs.Ytdagliimdmbeaaa
/- THE CELL 'sum', in the pinned program and in every row, IS THE sha256 OF THE DUMP (.gsa) THAT YtdagliimdmbeaaaProg.lean LOADS. Nothing in Lean hashes anything: it is a label: what it is worth is what the hold of that sum in a sandbox is worth. -/
noncomputable def Try.pinned : Pinned := { name := "ytdagliimdmbeaaa", sum := "92e584fcee98206e4fbc08f0948966c5c3be5f17fc1f5d9fee628128f0b218ec", checked := Try.checked }
namespace Rows
def none {H : Type} : Left H := { results := [], args := [] }

/-- 'waybilllaw11.NibbleUnpacks': WHATEVER THE INPUT: true; the input reads as it did. -/
def nibbleUnpacksSpec : ChangeSpec := { name := "nibbleUnpacks", fn := fun _ => fun
  | [d] => { results := [.lit (.bool true)], args := [d] }
  | _ => none }
def nibbleUnpacksRow : OpenClaim := { program := "ytdagliimdmbeaaa", sum := "92e584fcee98206e4fbc08f0948966c5c3be5f17fc1f5d9fee628128f0b218ec", func := "waybill/waybilllaw11.NibbleUnpacks", spec := "nibbleUnpacks", apart := false }
def NibbleUnpacksSaid : Prop := nibbleUnpacksRow.holds Try.pinned (OpenSpec.ofChange nibbleUnpacksSpec)

/-- ITS FALSE NEIGHBOUR: 'it returns false'. Refute it at one input. -/
def nibbleUnpacksWrong : ChangeSpec := { name := "nibbleUnpacks", fn := fun _ => fun
  | [d] => { results := [.lit (.bool false)], args := [d] }
  | _ => none }
def NibbleUnpacksWrongFalsely : Prop := nibbleUnpacksRow.holds Try.pinned (OpenSpec.ofChange nibbleUnpacksWrong)

/-- 'waybilllaw11.NibbleKeys': WHATEVER THE INPUT: true; the input reads as it did. -/
def nibbleKeysSpec : ChangeSpec := { name := "nibbleKeys", fn := fun _ => fun
  | [d] => { results := [.lit (.bool true)], args := [d] }
  | _ => none }
def nibbleKeysRow : OpenClaim := { program := "ytdagliimdmbeaaa", sum := "92e584fcee98206e4fbc08f0948966c5c3be5f17fc1f5d9fee628128f0b218ec", func := "waybill/waybilllaw11.NibbleKeys", spec := "nibbleKeys", apart := false }
def NibbleKeysSaid : Prop := nibbleKeysRow.holds Try.pinned (OpenSpec.ofChange nibbleKeysSpec)

/-- ITS FALSE NEIGHBOUR: 'it returns false'. Refute it at one input. -/
def nibbleKeysWrong : ChangeSpec := { name := "nibbleKeys", fn := fun _ => fun
  | [d] => { results := [.lit (.bool false)], args := [d] }
  | _ => none }
def NibbleKeysWrongFalsely : Prop := nibbleKeysRow.holds Try.pinned (OpenSpec.ofChange nibbleKeysWrong)

/-- 'waybilllaw11.NibblePacks': WHATEVER THE INPUT: true; the input reads as it did. -/
def nibblePacksSpec : ChangeSpec := { name := "nibblePacks", fn := fun _ => fun
  | [d1, d2] => { results := [.lit (.bool true)], args := [d1, d2] }
  | _ => none }
def nibblePacksRow : OpenClaim := { program := "ytdagliimdmbeaaa", sum := "92e584fcee98206e4fbc08f0948966c5c3be5f17fc1f5d9fee628128f0b218ec", func := "waybill/waybilllaw11.NibblePacks", spec := "nibblePacks", apart := false }
def NibblePacksSaid : Prop := nibblePacksRow.holds Try.pinned (OpenSpec.ofChange nibblePacksSpec)

/-- ITS FALSE NEIGHBOUR: 'it returns false'. Refute it at one input. -/
def nibblePacksWrong : ChangeSpec := { name := "nibblePacks", fn := fun _ => fun
  | [d1, d2] => { results := [.lit (.bool false)], args := [d1, d2] }
  | _ => none }
def NibblePacksWrongFalsely : Prop := nibblePacksRow.holds Try.pinned (OpenSpec.ofChange nibblePacksWrong)

/-- 'waybilllaw11.NibbleCompares': WHATEVER THE INPUT: true; the input reads as it did. -/
def nibbleComparesSpec : ChangeSpec := { name := "nibbleCompares", fn := fun _ => fun
  | [d1, d2] => { results := [.lit (.bool true)], args := [d1, d2] }
  | _ => none }
def nibbleComparesRow : OpenClaim := { program := "ytdagliimdmbeaaa", sum := "92e584fcee98206e4fbc08f0948966c5c3be5f17fc1f5d9fee628128f0b218ec", func := "waybill/waybilllaw11.NibbleCompares", spec := "nibbleCompares", apart := false }
def NibbleComparesSaid : Prop := nibbleComparesRow.holds Try.pinned (OpenSpec.ofChange nibbleComparesSpec)

/-- ITS FALSE NEIGHBOUR: 'it returns false'. Refute it at one input. -/
def nibbleComparesWrong : ChangeSpec := { name := "nibbleCompares", fn := fun _ => fun
  | [d1, d2] => { results := [.lit (.bool false)], args := [d1, d2] }
  | _ => none }
def NibbleComparesWrongFalsely : Prop := nibbleComparesRow.holds Try.pinned (OpenSpec.ofChange nibbleComparesWrong)

/-- 'waybilllaw11.NibbleOrder': WHATEVER THE INPUT: true; the input reads as it did. -/
def nibbleOrderSpec : ChangeSpec := { name := "nibbleOrder", fn := fun _ => fun
  | [d1, d2, d3] => { results := [.lit (.bool true)], args := [d1, d2, d3] }
  | _ => none }
def nibbleOrderRow : OpenClaim := { program := "ytdagliimdmbeaaa", sum := "92e584fcee98206e4fbc08f0948966c5c3be5f17fc1f5d9fee628128f0b218ec", func := "waybill/waybilllaw11.NibbleOrder", spec := "nibbleOrder", apart := false }
def NibbleOrderSaid : Prop := nibbleOrderRow.holds Try.pinned (OpenSpec.ofChange nibbleOrderSpec)

/-- ITS FALSE NEIGHBOUR: 'it returns false'. Refute it at one input. -/
def nibbleOrderWrong : ChangeSpec := { name := "nibbleOrder", fn := fun _ => fun
  | [d1, d2, d3] => { results := [.lit (.bool false)], args := [d1, d2, d3] }
  | _ => none }
def NibbleOrderWrongFalsely : Prop := nibbleOrderRow.holds Try.pinned (OpenSpec.ofChange nibbleOrderWrong)

/-- 'waybilllaw11.NibbleBack': WHATEVER THE INPUT: true; the input reads as it did. -/
def nibbleBackSpec : ChangeSpec := { name := "nibbleBack", fn := fun _ => fun
  | [d1, d2, d3] => { results := [.lit (.bool true)], args := [d1, d2, d3] }
  | _ => none }
def nibbleBackRow : OpenClaim := { program := "ytdagliimdmbeaaa", sum := "92e584fcee98206e4fbc08f0948966c5c3be5f17fc1f5d9fee628128f0b218ec", func := "waybill/waybilllaw11.NibbleBack", spec := "nibbleBack", apart := false }
def NibbleBackSaid : Prop := nibbleBackRow.holds Try.pinned (OpenSpec.ofChange nibbleBackSpec)

/-- ITS FALSE NEIGHBOUR: 'it returns false'. Refute it at one input. -/
def nibbleBackWrong : ChangeSpec := { name := "nibbleBack", fn := fun _ => fun
  | [d1, d2, d3] => { results := [.lit (.bool false)], args := [d1, d2, d3] }
  | _ => none }
def NibbleBackWrongFalsely : Prop := nibbleBackRow.holds Try.pinned (OpenSpec.ofChange nibbleBackWrong)

/-- 'waybilllaw11.NibbleOne': WHATEVER THE INPUT: true; the input reads as it did. -/
def nibbleOneSpec : ChangeSpec := { name := "nibbleOne", fn := fun _ => fun
  | [d1, d2, d3] => { results := [.lit (.bool true)], args := [d1, d2, d3] }
  | _ => none }
def nibbleOneRow : OpenClaim := { program := "ytdagliimdmbeaaa", sum := "92e584fcee98206e4fbc08f0948966c5c3be5f17fc1f5d9fee628128f0b218ec", func := "waybill/waybilllaw11.NibbleOne", spec := "nibbleOne", apart := false }
def NibbleOneSaid : Prop := nibbleOneRow.holds Try.pinned (OpenSpec.ofChange nibbleOneSpec)

/-- ITS FALSE NEIGHBOUR: 'it returns false'. Refute it at one input. -/
def nibbleOneWrong : ChangeSpec := { name := "nibbleOne", fn := fun _ => fun
  | [d1, d2, d3] => { results := [.lit (.bool false)], args := [d1, d2, d3] }
  | _ => none }
def NibbleOneWrongFalsely : Prop := nibbleOneRow.holds Try.pinned (OpenSpec.ofChange nibbleOneWrong)

/- THE SECOND FORM. 'bulk': how many values and letters a reading holds, each counted each time it is reached (what is shared counts as often as it is met; a slice's spare places count too). A statement '..UptoSaid' is the law's where the arguments, and the package variables that the reading takes, are together of bulk at most 1048576: NARROWER than '..Said'. Prove '..Said' where nothing that the law and all that it calls make is longer than what came in: it says more and counts as full. Else prove '..UptoSaid'. A law counts once. -/
mutual
def uptoBulk {H : Type} : DataW H → Nat
  | .lit (.string bytes) => bytes.length + 1
  | .lit _ => 1
  | .nil => 1
  | .ptr d => uptoBulk d + 1
  | .slice elems spare => uptoBulkAll elems + uptoBulkAll spare + 1
  | .agg parts => uptoBulkAll parts + 1
  | .iface _ d => uptoBulk d + 1
  | .map entries => uptoBulkEntries entries + 1
  | .held _ => 1
def uptoBulkAll {H : Type} : List (DataW H) → Nat
  | [] => 0
  | d :: r => uptoBulk d + uptoBulkAll r
def uptoBulkEntries {H : Type} : List (Lit × DataW H) → Nat
  | [] => 0
  | x :: r => uptoBulkEntry x + uptoBulkEntries r
def uptoBulkEntry {H : Type} : Lit × DataW H → Nat
  | (.string bytes, d) => bytes.length + uptoBulk d + 1
  | (_, d) => uptoBulk d + 1
 end
def uptoSmall : (H : Type) → List (DataW H) → Bool := fun _ ds => decide (uptoBulkAll ds ≤ 1048576)
def OpenSpec.upto (s : _root_.Go.ChangeSpec) : _root_.Go.OpenSpec := { _root_.Go.OpenSpec.ofChange s with cond := some uptoSmall }

/-- 'waybilllaw11.NibbleUnpacks', WHERE WHAT IT READS IS OF BULK AT MOST 1048576: true; the input reads as it did. -/
def nibbleUnpacksUptoRow : OpenClaim := { program := "ytdagliimdmbeaaa", sum := "92e584fcee98206e4fbc08f0948966c5c3be5f17fc1f5d9fee628128f0b218ec", func := "waybill/waybilllaw11.NibbleUnpacks", spec := "nibbleUnpacks", apart := false, narrowed := true }
def NibbleUnpacksUptoSaid : Prop := nibbleUnpacksUptoRow.holds Try.pinned (OpenSpec.upto nibbleUnpacksSpec)

/-- 'waybilllaw11.NibbleKeys', WHERE WHAT IT READS IS OF BULK AT MOST 1048576: true; the input reads as it did. -/
def nibbleKeysUptoRow : OpenClaim := { program := "ytdagliimdmbeaaa", sum := "92e584fcee98206e4fbc08f0948966c5c3be5f17fc1f5d9fee628128f0b218ec", func := "waybill/waybilllaw11.NibbleKeys", spec := "nibbleKeys", apart := false, narrowed := true }
def NibbleKeysUptoSaid : Prop := nibbleKeysUptoRow.holds Try.pinned (OpenSpec.upto nibbleKeysSpec)

/-- 'waybilllaw11.NibblePacks', WHERE WHAT IT READS IS OF BULK AT MOST 1048576: true; the input reads as it did. -/
def nibblePacksUptoRow : OpenClaim := { program := "ytdagliimdmbeaaa", sum := "92e584fcee98206e4fbc08f0948966c5c3be5f17fc1f5d9fee628128f0b218ec", func := "waybill/waybilllaw11.NibblePacks", spec := "nibblePacks", apart := false, narrowed := true }
def NibblePacksUptoSaid : Prop := nibblePacksUptoRow.holds Try.pinned (OpenSpec.upto nibblePacksSpec)

/-- 'waybilllaw11.NibbleCompares', WHERE WHAT IT READS IS OF BULK AT MOST 1048576: true; the input reads as it did. -/
def nibbleComparesUptoRow : OpenClaim := { program := "ytdagliimdmbeaaa", sum := "92e584fcee98206e4fbc08f0948966c5c3be5f17fc1f5d9fee628128f0b218ec", func := "waybill/waybilllaw11.NibbleCompares", spec := "nibbleCompares", apart := false, narrowed := true }
def NibbleComparesUptoSaid : Prop := nibbleComparesUptoRow.holds Try.pinned (OpenSpec.upto nibbleComparesSpec)

/-- 'waybilllaw11.NibbleOrder', WHERE WHAT IT READS IS OF BULK AT MOST 1048576: true; the input reads as it did. -/
def nibbleOrderUptoRow : OpenClaim := { program := "ytdagliimdmbeaaa", sum := "92e584fcee98206e4fbc08f0948966c5c3be5f17fc1f5d9fee628128f0b218ec", func := "waybill/waybilllaw11.NibbleOrder", spec := "nibbleOrder", apart := false, narrowed := true }
def NibbleOrderUptoSaid : Prop := nibbleOrderUptoRow.holds Try.pinned (OpenSpec.upto nibbleOrderSpec)

/-- 'waybilllaw11.NibbleBack', WHERE WHAT IT READS IS OF BULK AT MOST 1048576: true; the input reads as it did. -/
def nibbleBackUptoRow : OpenClaim := { program := "ytdagliimdmbeaaa", sum := "92e584fcee98206e4fbc08f0948966c5c3be5f17fc1f5d9fee628128f0b218ec", func := "waybill/waybilllaw11.NibbleBack", spec := "nibbleBack", apart := false, narrowed := true }
def NibbleBackUptoSaid : Prop := nibbleBackUptoRow.holds Try.pinned (OpenSpec.upto nibbleBackSpec)

/-- 'waybilllaw11.NibbleOne', WHERE WHAT IT READS IS OF BULK AT MOST 1048576: true; the input reads as it did. -/
def nibbleOneUptoRow : OpenClaim := { program := "ytdagliimdmbeaaa", sum := "92e584fcee98206e4fbc08f0948966c5c3be5f17fc1f5d9fee628128f0b218ec", func := "waybill/waybilllaw11.NibbleOne", spec := "nibbleOne", apart := false, narrowed := true }
def NibbleOneUptoSaid : Prop := nibbleOneUptoRow.holds Try.pinned (OpenSpec.upto nibbleOneSpec)

end Rows
end Go.Proofs.Ytdagliimdmbeaaa
