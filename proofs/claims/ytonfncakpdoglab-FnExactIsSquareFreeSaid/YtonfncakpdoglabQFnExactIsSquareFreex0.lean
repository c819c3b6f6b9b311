/- Written by a program of this session for this claim: functions of the program as Lean functions, and proofs that the calls come to what these say. -/
import Derived.Test.YtonfncakpdoglabProg
import Derived.Below
import Derived.Deep.Draws
import Derived.Deep.AppendLies
import Derived.Maps.AppendAt
import Derived.OwnWalk
import Derived.Laws.BytesArg
import Derived.Laws.MakeOwn
import Derived.Laws.OwnMore
import Derived.Deep.OwnRows
import Derived.Tactics
import Derived.Lib.ConvBytes
import Derived.Laws.Slices
import Derived.WalkKit
import Derived.KernelRfl
import Derived.RowKit3
import Derived.Deep.LoopGhost
import Derived.Deep.QuietTactic
import Derived.BigQuiet
import Derived.WideLaws
import Derived.Deep.DeepCutAuto
import Derived.Deep.CutBlock
import Derived.Deep.RegionHeld3
import Derived.Laws.Rows
import Derived.Lib.AppendStr
import Derived.ArgAppend
import Derived.Laws.IdiomCopy
import Derived.OrdersHeld
import Derived.Laws.BitsLemmas
import Derived.RowKit
import Derived.Test.YtonfncakpdoglabWWords
import Derived.Test.YtonfncakpdoglabWLast
import Derived.Test.YtonfncakpdoglabWTab
import Derived.Test.YtonfncakpdoglabWFour
import Derived.Test.YtonfncakpdoglabWQPut
import Derived.Test.YtonfncakpdoglabWApart
import Derived.Test.YtonfncakpdoglabWArr
import Derived.Test.YtonfncakpdoglabWZeros
import Derived.Test.YtonfncakpdoglabWFoot
import Derived.Test.YtonfncakpdoglabWKept
import Derived.Test.YtonfncakpdoglabWShare
import Derived.Test.YtonfncakpdoglabWN
import Derived.Test.YtonfncakpdoglabWFootNe
import Derived.Test.YtonfncakpdoglabWAt
import Derived.Test.YtonfncakpdoglabWEqStruct
import Derived.Test.YtonfncakpdoglabWRepsOne
import Derived.Test.YtonfncakpdoglabWInv
import Derived.Test.YtonfncakpdoglabWInvWords
import Derived.Test.YtonfncakpdoglabWGuard
import Derived.Test.YtonfncakpdoglabWNEv
import Derived.Test.YtonfncakpdoglabWMore
namespace Go.Proofs.Ytonfncakpdoglab.QFnExactIsSquareFree
open Go.RowKit Go.Proofs.YtonfncakpdoglabW.PrintWords Go.Proofs.YtonfncakpdoglabW.PrintLast Go.Proofs.YtonfncakpdoglabW.PrintMore
attribute [local go_sem] max2_int min2_int max_two min_two max_three min_three max_four min_four   -- for this text's walks alone
set_option linter.unusedVariables false
set_option linter.unusedSimpArgs false



def errW : Option Int → Value
  | none => .nilIface
  | some c => .iface 0 (.int .i64 c)
theorem errW_none : errW none = .nilIface := rfl
theorem errW_some (c : Int) : errW (some c) = .iface 0 (.int .i64 c) := rfl

-- the values' own types

end Go.Proofs.Ytonfncakpdoglab.QFnExactIsSquareFree
