/- Written by a program of this session for this claim: functions of the program as Lean functions, and proofs that the calls come to what these say. -/
import Derived.Test.YtkklcjfpgfgkdabProg
import Derived.Below
import Derived.Deep.Draws
import Derived.Deep.AppendLies
import Derived.Maps.AppendAt
import Derived.OwnWalk
import Derived.Laws.BytesArg
import Derived.Laws.MakeOwn
import Derived.Laws.OwnMore
import Derived.Deep.OwnRows
import Derived.Tactics
import Derived.Lib.ConvBytes
import Derived.Laws.Slices
import Derived.WalkKit
import Derived.KernelRfl
import Derived.RowKit3
import Derived.Deep.LoopGhost
import Derived.Deep.QuietTactic
import Derived.BigQuiet
import Derived.WideLaws
import Derived.Deep.DeepCutAuto
import Derived.Deep.CutBlock
import Derived.Deep.RegionHeld3
import Derived.Laws.Rows
import Derived.Lib.AppendStr
import Derived.ArgAppend
import Derived.Laws.IdiomCopy
import Derived.OrdersHeld
import Derived.Laws.BitsLemmas
import Derived.RowKit
import Derived.Test.YtkklcjfpgfgkdabWWords
import Derived.Test.YtkklcjfpgfgkdabWLast
import Derived.Test.YtkklcjfpgfgkdabWTab
import Derived.Test.YtkklcjfpgfgkdabWFour
import Derived.Test.YtkklcjfpgfgkdabWQPut
import Derived.Test.YtkklcjfpgfgkdabWApart
import Derived.Test.YtkklcjfpgfgkdabWArr
import Derived.Test.YtkklcjfpgfgkdabWZeros
import Derived.Test.YtkklcjfpgfgkdabWFoot
import Derived.Test.YtkklcjfpgfgkdabWKept
import Derived.Test.YtkklcjfpgfgkdabWShare
import Derived.Test.YtkklcjfpgfgkdabWN
import Derived.Test.YtkklcjfpgfgkdabWFootNe
import Derived.Test.YtkklcjfpgfgkdabWAt
import Derived.Test.YtkklcjfpgfgkdabWEqStruct
import Derived.Test.YtkklcjfpgfgkdabWRepsOne
import Derived.Test.YtkklcjfpgfgkdabWInv
import Derived.Test.YtkklcjfpgfgkdabWInvWords
import Derived.Test.YtkklcjfpgfgkdabWGuard
import Derived.Test.YtkklcjfpgfgkdabWNEv
import Derived.Test.YtkklcjfpgfgkdabWMore
namespace Go.Proofs.Ytkklcjfpgfgkdab.QFnExactCommuteOk
open Go.RowKit Go.Proofs.YtkklcjfpgfgkdabW.PrintWords Go.Proofs.YtkklcjfpgfgkdabW.PrintLast Go.Proofs.YtkklcjfpgfgkdabW.PrintMore
attribute [local go_sem] max2_int min2_int max_two min_two max_three min_three max_four min_four   -- for this text's walks alone
set_option linter.unusedVariables false
set_option linter.unusedSimpArgs false



def errW : Option Int → Value
  | none => .nilIface
  | some c => .iface 0 (.int .i64 c)
theorem errW_none : errW none = .nilIface := rfl
theorem errW_some (c : Int) : errW (some c) = .iface 0 (.int .i64 c) := rfl

theorem info9 : (Try.prog.info? 9).map (fun i => (i.zero, i.size, i.bytes)) = some (some (.string ⟨#[]⟩), 1, 16) := by kernel_rfl
-- the values' own types

end Go.Proofs.Ytkklcjfpgfgkdab.QFnExactCommuteOk
