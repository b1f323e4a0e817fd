-- PRINTED by print.py (a twelfth state) out of the translation. Not trusted: Lean checks it.
import Derived.Test.YtalmhafekmggdaaProg
import Derived.Below
import Derived.Deep.Draws
import Derived.Deep.AppendLies
import Derived.Maps.AppendAt
import Derived.OwnWalk
import Derived.Laws.BytesArg
import Derived.Laws.MakeOwn
import Derived.Laws.OwnMore
import Derived.Deep.OwnRows
import Derived.Tactics
import Derived.Lib.ConvBytes
import Derived.Laws.Slices
import Derived.WalkKit
import Derived.KernelRfl
import Derived.RowKit3
import Derived.Deep.LoopGhost
import Derived.Deep.QuietTactic
import Derived.BigQuiet
import Derived.WideLaws
import Derived.Deep.DeepCutAuto
import Derived.Deep.CutBlock
import Derived.Deep.RegionHeld3
import Derived.Laws.Rows
import Derived.Lib.AppendStr
import Derived.ArgAppend
import Derived.Laws.IdiomCopy
import Derived.OrdersHeld
import Derived.Laws.BitsLemmas
import Derived.RowKit
import Derived.Test.YtalmhafekmggdaaWWords
import Derived.Test.YtalmhafekmggdaaWLast
import Derived.Test.YtalmhafekmggdaaWTab
import Derived.Test.YtalmhafekmggdaaWFour
import Derived.Test.YtalmhafekmggdaaWQPut
import Derived.Test.YtalmhafekmggdaaWApart
import Derived.Test.YtalmhafekmggdaaWArr
import Derived.Test.YtalmhafekmggdaaWZeros
import Derived.Test.YtalmhafekmggdaaWFoot
import Derived.Test.YtalmhafekmggdaaWKept
import Derived.Test.YtalmhafekmggdaaWShare
import Derived.Test.YtalmhafekmggdaaWN
import Derived.Test.YtalmhafekmggdaaWFootNe
import Derived.Test.YtalmhafekmggdaaWAt
import Derived.Test.YtalmhafekmggdaaWEqStruct
import Derived.Test.YtalmhafekmggdaaWRepsOne
import Derived.Test.YtalmhafekmggdaaWInv
import Derived.Test.YtalmhafekmggdaaWInvWords
import Derived.Test.YtalmhafekmggdaaWGuard
import Derived.Test.YtalmhafekmggdaaWNEv
import Derived.Test.YtalmhafekmggdaaWMore
namespace Go.Proofs.Ytalmhafekmggdaa.PPg
open Go.RowKit Go.Proofs.YtalmhafekmggdaaW.PrintWords Go.Proofs.YtalmhafekmggdaaW.PrintLast Go.Proofs.YtalmhafekmggdaaW.PrintMore
attribute [local go_sem] max2_int min2_int max_two min_two max_three min_three max_four min_four   -- for this text's walks alone
set_option linter.unusedVariables false
set_option linter.unusedSimpArgs false



def errW : Option Int → Value
  | none => .nilIface
  | some c => .iface 0 (.int .i64 c)
theorem errW_none : errW none = .nilIface := rfl
theorem errW_some (c : Int) : errW (some c) = .iface 0 (.int .i64 c) := rfl

theorem info3 : (Try.prog.info? 3).map (fun i => (i.zero, i.size, i.bytes)) = some (some (.int .i64 0), 1, 8) := by kernel_rfl
-- the values' own types

end Go.Proofs.Ytalmhafekmggdaa.PPg
