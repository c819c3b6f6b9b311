/- Written by a program of this session for this claim: functions of the program as Lean functions, and proofs that the calls come to what these say. -/
import Derived.Test.YtonfncakpdoglaaProg
import Derived.Below
import Derived.Deep.Draws
import Derived.Deep.AppendLies
import Derived.Maps.AppendAt
import Derived.OwnWalk
import Derived.Laws.BytesArg
import Derived.Laws.MakeOwn
import Derived.Laws.OwnMore
import Derived.Deep.OwnRows
import Derived.Tactics
import Derived.Lib.ConvBytes
import Derived.Laws.Slices
import Derived.WalkKit
import Derived.KernelRfl
import Derived.RowKit3
import Derived.Deep.LoopGhost
import Derived.Deep.QuietTactic
import Derived.BigQuiet
import Derived.WideLaws
import Derived.Deep.DeepCutAuto
import Derived.Deep.CutBlock
import Derived.Deep.RegionHeld3
import Derived.Laws.Rows
import Derived.Lib.AppendStr
import Derived.ArgAppend
import Derived.Laws.IdiomCopy
import Derived.OrdersHeld
import Derived.Laws.BitsLemmas
import Derived.RowKit
import Derived.Test.YtonfncakpdoglaaWWords
import Derived.Test.YtonfncakpdoglaaWLast
import Derived.Test.YtonfncakpdoglaaWTab
import Derived.Test.YtonfncakpdoglaaWFour
import Derived.Test.YtonfncakpdoglaaWQPut
import Derived.Test.YtonfncakpdoglaaWApart
import Derived.Test.YtonfncakpdoglaaWArr
import Derived.Test.YtonfncakpdoglaaWZeros
import Derived.Test.YtonfncakpdoglaaWFoot
import Derived.Test.YtonfncakpdoglaaWKept
import Derived.Test.YtonfncakpdoglaaWShare
import Derived.Test.YtonfncakpdoglaaWN
import Derived.Test.YtonfncakpdoglaaWFootNe
import Derived.Test.YtonfncakpdoglaaWAt
import Derived.Test.YtonfncakpdoglaaWEqStruct
import Derived.Test.YtonfncakpdoglaaWRepsOne
import Derived.Test.YtonfncakpdoglaaWInv
import Derived.Test.YtonfncakpdoglaaWInvWords
import Derived.Test.YtonfncakpdoglaaWGuard
import Derived.Test.YtonfncakpdoglaaWNEv
import Derived.Test.YtonfncakpdoglaaWMore
namespace Go.Proofs.Ytonfncakpdoglaa.QFnExactFirstOverlap
open Go.RowKit Go.Proofs.YtonfncakpdoglaaW.PrintWords Go.Proofs.YtonfncakpdoglaaW.PrintLast Go.Proofs.YtonfncakpdoglaaW.PrintMore
attribute [local go_sem] max2_int min2_int max_two min_two max_three min_three max_four min_four   -- for this text's walks alone
set_option linter.unusedVariables false
set_option linter.unusedSimpArgs false



def errW : Option Int → Value
  | none => .nilIface
  | some c => .iface 0 (.int .i64 c)
theorem errW_none : errW none = .nilIface := rfl
theorem errW_some (c : Int) : errW (some c) = .iface 0 (.int .i64 c) := rfl

-- the values' own types

end Go.Proofs.Ytonfncakpdoglaa.QFnExactFirstOverlap
