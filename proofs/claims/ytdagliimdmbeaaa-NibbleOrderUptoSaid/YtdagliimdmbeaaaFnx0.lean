-- own
import Derived.Test.YtdagliimdmbeaaaProg
import Derived.Below
import Derived.Deep.Draws
import Derived.Deep.AppendLies
import Derived.Maps.AppendAt
import Derived.OwnWalk
import Derived.Laws.BytesArg
import Derived.Laws.MakeOwn
import Derived.Laws.OwnMore
import Derived.Deep.OwnRows
import Derived.Tactics
import Derived.Lib.ConvBytes
import Derived.Laws.Slices
import Derived.WalkKit
import Derived.KernelRfl
import Derived.RowKit3
import Derived.Deep.LoopGhost
import Derived.Deep.QuietTactic
import Derived.BigQuiet
import Derived.WideLaws
import Derived.Deep.DeepCutAuto
import Derived.Deep.CutBlock
import Derived.Deep.RegionHeld3
import Derived.Laws.Rows
import Derived.Lib.AppendStr
import Derived.ArgAppend
import Derived.Laws.IdiomCopy
import Derived.OrdersHeld
import Derived.Laws.BitsLemmas
import Derived.RowKit
import Derived.Test.YtdagliimdmbeaaaWWords
import Derived.Test.YtdagliimdmbeaaaWLast
import Derived.Test.YtdagliimdmbeaaaWTab
import Derived.Test.YtdagliimdmbeaaaWFour
import Derived.Test.YtdagliimdmbeaaaWQPut
import Derived.Test.YtdagliimdmbeaaaWApart
import Derived.Test.YtdagliimdmbeaaaWArr
import Derived.Test.YtdagliimdmbeaaaWZeros
import Derived.Test.YtdagliimdmbeaaaWFoot
import Derived.Test.YtdagliimdmbeaaaWKept
import Derived.Test.YtdagliimdmbeaaaWShare
import Derived.Test.YtdagliimdmbeaaaWN
import Derived.Test.YtdagliimdmbeaaaWFootNe
import Derived.Test.YtdagliimdmbeaaaWAt
import Derived.Test.YtdagliimdmbeaaaWEqStruct
import Derived.Test.YtdagliimdmbeaaaWRepsOne
import Derived.Test.YtdagliimdmbeaaaWInv
import Derived.Test.YtdagliimdmbeaaaWInvWords
import Derived.Test.YtdagliimdmbeaaaWGuard
import Derived.Test.YtdagliimdmbeaaaWNEv
import Derived.Test.YtdagliimdmbeaaaWMore
namespace Go.Proofs.Ytdagliimdmbeaaa.Fn
open Go.RowKit Go.Proofs.YtdagliimdmbeaaaW.PrintWords Go.Proofs.YtdagliimdmbeaaaW.PrintLast Go.Proofs.YtdagliimdmbeaaaW.PrintMore
attribute [local go_sem] max2_int min2_int max_two min_two max_three min_three max_four min_four   -- for this text's walks alone
set_option linter.unusedVariables false
set_option linter.unusedSimpArgs false



def errW : Option Int → Value
  | none => .nilIface
  | some c => .iface 0 (.int .i64 c)
theorem errW_none : errW none = .nilIface := rfl
theorem errW_some (c : Int) : errW (some c) = .iface 0 (.int .i64 c) := rfl

theorem info5 : (Try.prog.info? 5).map (fun i => (i.zero, i.size, i.bytes)) = some (some (.int .u8 0), 1, 1) := by kernel_rfl
-- the values' own types

end Go.Proofs.Ytdagliimdmbeaaa.Fn
