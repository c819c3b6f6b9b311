/- Written by a program of this session for this claim: functions of the program as Lean functions, and proofs that the calls come to what these say. -/
import Derived.Test.YtkklcjfpgfgkdaaProg
import Derived.Below
import Derived.Deep.Draws
import Derived.Deep.AppendLies
import Derived.Maps.AppendAt
import Derived.OwnWalk
import Derived.Laws.BytesArg
import Derived.Laws.MakeOwn
import Derived.Laws.OwnMore
import Derived.Deep.OwnRows
import Derived.Tactics
import Derived.Lib.ConvBytes
import Derived.Laws.Slices
import Derived.WalkKit
import Derived.KernelRfl
import Derived.RowKit3
import Derived.Deep.LoopGhost
import Derived.Deep.QuietTactic
import Derived.BigQuiet
import Derived.WideLaws
import Derived.Deep.DeepCutAuto
import Derived.Deep.CutBlock
import Derived.Deep.RegionHeld3
import Derived.Laws.Rows
import Derived.Lib.AppendStr
import Derived.ArgAppend
import Derived.Laws.IdiomCopy
import Derived.OrdersHeld
import Derived.Laws.BitsLemmas
import Derived.RowKit
import Derived.Test.YtkklcjfpgfgkdaaMirLay
import Derived.Lib.OwnBridge
import Derived.Test.YtkklcjfpgfgkdaaWWords
import Derived.Test.YtkklcjfpgfgkdaaWLast
import Derived.Test.YtkklcjfpgfgkdaaWTab
import Derived.Test.YtkklcjfpgfgkdaaWFour
import Derived.Test.YtkklcjfpgfgkdaaWQPut
import Derived.Test.YtkklcjfpgfgkdaaWApart
import Derived.Test.YtkklcjfpgfgkdaaWArr
import Derived.Test.YtkklcjfpgfgkdaaWZeros
import Derived.Test.YtkklcjfpgfgkdaaWFoot
import Derived.Test.YtkklcjfpgfgkdaaWKept
import Derived.Test.YtkklcjfpgfgkdaaWShare
import Derived.Test.YtkklcjfpgfgkdaaWN
import Derived.Test.YtkklcjfpgfgkdaaWFootNe
import Derived.Test.YtkklcjfpgfgkdaaWAt
import Derived.Test.YtkklcjfpgfgkdaaWEqStruct
import Derived.Test.YtkklcjfpgfgkdaaWRepsOne
import Derived.Test.YtkklcjfpgfgkdaaWInv
import Derived.Test.YtkklcjfpgfgkdaaWInvWords
import Derived.Test.YtkklcjfpgfgkdaaWGuard
import Derived.Test.YtkklcjfpgfgkdaaWNEv
import Derived.Test.YtkklcjfpgfgkdaaWMore
namespace Go.Proofs.Ytkklcjfpgfgkdaa.QFnExactMirrorList
open Go.RowKit Go.Proofs.YtkklcjfpgfgkdaaW.PrintWords Go.Proofs.YtkklcjfpgfgkdaaW.PrintLast Go.Proofs.YtkklcjfpgfgkdaaW.PrintMore
attribute [local go_sem] max2_int min2_int max_two min_two max_three min_three max_four min_four   -- for this text's walks alone
set_option linter.unusedVariables false
set_option linter.unusedSimpArgs false



def errW : Option Int → Value
  | none => .nilIface
  | some c => .iface 0 (.int .i64 c)
theorem errW_none : errW none = .nilIface := rfl
theorem errW_some (c : Int) : errW (some c) = .iface 0 (.int .i64 c) := rfl

theorem info5 : (Try.prog.info? 5).map (fun i => (i.zero, i.size, i.bytes)) = some (some (.int .u8 0), 1, 1) := by kernel_rfl
theorem info9 : (Try.prog.info? 9).map (fun i => (i.zero, i.size, i.bytes)) = some (some (.string ⟨#[]⟩), 1, 16) := by kernel_rfl
-- the values' own types

end Go.Proofs.Ytkklcjfpgfgkdaa.QFnExactMirrorList
