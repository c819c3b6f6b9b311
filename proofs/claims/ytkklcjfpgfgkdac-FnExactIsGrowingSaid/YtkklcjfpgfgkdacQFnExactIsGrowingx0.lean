/- Written by a program of this session for this claim: functions of the program as Lean functions, and proofs that the calls come to what these say. -/
import Derived.Test.YtkklcjfpgfgkdacProg
import Derived.Below
import Derived.Deep.Draws
import Derived.Deep.AppendLies
import Derived.Maps.AppendAt
import Derived.OwnWalk
import Derived.Laws.BytesArg
import Derived.Laws.MakeOwn
import Derived.Laws.OwnMore
import Derived.Deep.OwnRows
import Derived.Tactics
import Derived.Lib.ConvBytes
import Derived.Laws.Slices
import Derived.WalkKit
import Derived.KernelRfl
import Derived.RowKit3
import Derived.Deep.LoopGhost
import Derived.Deep.QuietTactic
import Derived.BigQuiet
import Derived.WideLaws
import Derived.Deep.DeepCutAuto
import Derived.Deep.CutBlock
import Derived.Deep.RegionHeld3
import Derived.Laws.Rows
import Derived.Lib.AppendStr
import Derived.ArgAppend
import Derived.Laws.IdiomCopy
import Derived.OrdersHeld
import Derived.Laws.BitsLemmas
import Derived.RowKit
import Derived.Test.YtkklcjfpgfgkdacWWords
import Derived.Test.YtkklcjfpgfgkdacWLast
import Derived.Test.YtkklcjfpgfgkdacWTab
import Derived.Test.YtkklcjfpgfgkdacWFour
import Derived.Test.YtkklcjfpgfgkdacWQPut
import Derived.Test.YtkklcjfpgfgkdacWApart
import Derived.Test.YtkklcjfpgfgkdacWArr
import Derived.Test.YtkklcjfpgfgkdacWZeros
import Derived.Test.YtkklcjfpgfgkdacWFoot
import Derived.Test.YtkklcjfpgfgkdacWKept
import Derived.Test.YtkklcjfpgfgkdacWShare
import Derived.Test.YtkklcjfpgfgkdacWN
import Derived.Test.YtkklcjfpgfgkdacWFootNe
import Derived.Test.YtkklcjfpgfgkdacWAt
import Derived.Test.YtkklcjfpgfgkdacWEqStruct
import Derived.Test.YtkklcjfpgfgkdacWRepsOne
import Derived.Test.YtkklcjfpgfgkdacWInv
import Derived.Test.YtkklcjfpgfgkdacWInvWords
import Derived.Test.YtkklcjfpgfgkdacWGuard
import Derived.Test.YtkklcjfpgfgkdacWNEv
import Derived.Test.YtkklcjfpgfgkdacWMore
namespace Go.Proofs.Ytkklcjfpgfgkdac.QFnExactIsGrowing
open Go.RowKit Go.Proofs.YtkklcjfpgfgkdacW.PrintWords Go.Proofs.YtkklcjfpgfgkdacW.PrintLast Go.Proofs.YtkklcjfpgfgkdacW.PrintMore
attribute [local go_sem] max2_int min2_int max_two min_two max_three min_three max_four min_four   -- for this text's walks alone
set_option linter.unusedVariables false
set_option linter.unusedSimpArgs false



def errW : Option Int → Value
  | none => .nilIface
  | some c => .iface 0 (.int .i64 c)
theorem errW_none : errW none = .nilIface := rfl
theorem errW_some (c : Int) : errW (some c) = .iface 0 (.int .i64 c) := rfl

theorem info5 : (Try.prog.info? 5).map (fun i => (i.zero, i.size, i.bytes)) = some (some (.int .u8 0), 1, 1) := by kernel_rfl
theorem info9 : (Try.prog.info? 9).map (fun i => (i.zero, i.size, i.bytes)) = some (some (.string ⟨#[]⟩), 1, 16) := by kernel_rfl
-- the values' own types

end Go.Proofs.Ytkklcjfpgfgkdac.QFnExactIsGrowing
