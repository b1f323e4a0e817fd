-- PRINTED by print.py (a twelfth state) out of the translation. Not trusted: Lean checks it.
import Derived.Test.YtlafglenafmhbaaDoorProg
import Derived.Below
import Derived.Deep.Draws
import Derived.Deep.AppendLies
import Derived.Maps.AppendAt
import Derived.OwnWalk
import Derived.Laws.BytesArg
import Derived.Laws.MakeOwn
import Derived.Laws.OwnMore
import Derived.Deep.OwnRows
import Derived.Tactics
import Derived.Lib.ConvBytes
import Derived.Laws.Slices
import Derived.WalkKit
import Derived.KernelRfl
import Derived.RowKit3
import Derived.Deep.LoopGhost
import Derived.Deep.QuietTactic
import Derived.BigQuiet
import Derived.WideLaws
import Derived.Deep.DeepCutAuto
import Derived.Deep.CutBlock
import Derived.Deep.RegionHeld3
import Derived.Laws.Rows
import Derived.Lib.AppendStr
import Derived.ArgAppend
import Derived.Laws.IdiomCopy
import Derived.OrdersHeld
import Derived.Laws.BitsLemmas
import Derived.RowKit
import Derived.Test.YtlafglenafmhbaaDoorWWords
import Derived.Test.YtlafglenafmhbaaDoorWLast
import Derived.Test.YtlafglenafmhbaaDoorWTab
import Derived.Test.YtlafglenafmhbaaDoorWFour
import Derived.Test.YtlafglenafmhbaaDoorWQPut
import Derived.Test.YtlafglenafmhbaaDoorWApart
import Derived.Test.YtlafglenafmhbaaDoorWArr
import Derived.Test.YtlafglenafmhbaaDoorWZeros
import Derived.Test.YtlafglenafmhbaaDoorWFoot
import Derived.Test.YtlafglenafmhbaaDoorWKept
import Derived.Test.YtlafglenafmhbaaDoorWShare
import Derived.Test.YtlafglenafmhbaaDoorWN
import Derived.Test.YtlafglenafmhbaaDoorWFootNe
import Derived.Test.YtlafglenafmhbaaDoorWAt
import Derived.Test.YtlafglenafmhbaaDoorWEqStruct
import Derived.Test.YtlafglenafmhbaaDoorWRepsOne
import Derived.Test.YtlafglenafmhbaaDoorWInv
import Derived.Test.YtlafglenafmhbaaDoorWInvWords
import Derived.Test.YtlafglenafmhbaaDoorWGuard
import Derived.Test.YtlafglenafmhbaaDoorWNEv
import Derived.Test.YtlafglenafmhbaaDoorWMore
namespace Go.Proofs.YtlafglenafmhbaaDoor.PSc
open Go.RowKit Go.Proofs.YtlafglenafmhbaaDoorW.PrintWords Go.Proofs.YtlafglenafmhbaaDoorW.PrintLast Go.Proofs.YtlafglenafmhbaaDoorW.PrintMore
attribute [local go_sem] max2_int min2_int max_two min_two max_three min_three max_four min_four   -- for this text's walks alone
set_option linter.unusedVariables false
set_option linter.unusedSimpArgs false



def errW : Option Int → Value
  | none => .nilIface
  | some c => .iface 0 (.int .i64 c)
theorem errW_none : errW none = .nilIface := rfl
theorem errW_some (c : Int) : errW (some c) = .iface 0 (.int .i64 c) := rfl

theorem info3 : (Tryd.prog.info? 3).map (fun i => (i.zero, i.size, i.bytes)) = some (some (.int .i64 0), 1, 8) := by kernel_rfl
theorem info5 : (Tryd.prog.info? 5).map (fun i => (i.zero, i.size, i.bytes)) = some (some (.int .u8 0), 1, 1) := by kernel_rfl
theorem info9 : (Tryd.prog.info? 9).map (fun i => (i.zero, i.size, i.bytes)) = some (some (.string ⟨#[]⟩), 1, 16) := by kernel_rfl
-- the values' own types

end Go.Proofs.YtlafglenafmhbaaDoor.PSc
