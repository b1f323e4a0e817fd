-- WRITTEN BY A PROGRAM (a patched copy of the kit's print.py) out of the translation. Not trusted: Lean checks it.
import Derived.Test.YtnpelpnndkifmaaProg
import Derived.Below
import Derived.Deep.Draws
import Derived.Deep.AppendLies
import Derived.Maps.AppendAt
import Derived.OwnWalk
import Derived.Laws.BytesArg
import Derived.Laws.MakeOwn
import Derived.Laws.OwnMore
import Derived.Deep.OwnRows
import Derived.Tactics
import Derived.Lib.ConvBytes
import Derived.Laws.Slices
import Derived.WalkKit
import Derived.KernelRfl
import Derived.RowKit3
import Derived.Deep.LoopGhost
import Derived.Deep.QuietTactic
import Derived.BigQuiet
import Derived.WideLaws
import Derived.Deep.DeepCutAuto
import Derived.Deep.CutBlock
import Derived.Deep.RegionHeld3
import Derived.Laws.Rows
import Derived.Lib.AppendStr
import Derived.ArgAppend
import Derived.Laws.IdiomCopy
import Derived.OrdersHeld
import Derived.Laws.BitsLemmas
import Derived.RowKit
import Derived.Test.YtnpelpnndkifmaaWWords
import Derived.Test.YtnpelpnndkifmaaWLast
import Derived.Test.YtnpelpnndkifmaaWTab
import Derived.Test.YtnpelpnndkifmaaWFour
import Derived.Test.YtnpelpnndkifmaaWQPut
import Derived.Test.YtnpelpnndkifmaaWApart
import Derived.Test.YtnpelpnndkifmaaWArr
import Derived.Test.YtnpelpnndkifmaaWZeros
import Derived.Test.YtnpelpnndkifmaaWFoot
import Derived.Test.YtnpelpnndkifmaaWKept
import Derived.Test.YtnpelpnndkifmaaWShare
import Derived.Test.YtnpelpnndkifmaaWN
import Derived.Test.YtnpelpnndkifmaaWFootNe
import Derived.Test.YtnpelpnndkifmaaWAt
import Derived.Test.YtnpelpnndkifmaaWEqStruct
import Derived.Test.YtnpelpnndkifmaaWRepsOne
import Derived.Test.YtnpelpnndkifmaaWInv
import Derived.Test.YtnpelpnndkifmaaWInvWords
import Derived.Test.YtnpelpnndkifmaaWGuard
import Derived.Test.YtnpelpnndkifmaaWNEv
import Derived.Test.YtnpelpnndkifmaaWMore
namespace Go.Proofs.Ytnpelpnndkifmaa.PRef
open Go.RowKit Go.Proofs.YtnpelpnndkifmaaW.PrintWords Go.Proofs.YtnpelpnndkifmaaW.PrintLast Go.Proofs.YtnpelpnndkifmaaW.PrintMore
attribute [local go_sem] max2_int min2_int max_two min_two max_three min_three max_four min_four   -- for this text's walks alone
set_option linter.unusedVariables false
set_option linter.unusedSimpArgs false



def errW : Option Int → Value
  | none => .nilIface
  | some c => .iface 0 (.int .i64 c)
theorem errW_none : errW none = .nilIface := rfl
theorem errW_some (c : Int) : errW (some c) = .iface 0 (.int .i64 c) := rfl

-- the values' own types

end Go.Proofs.Ytnpelpnndkifmaa.PRef
