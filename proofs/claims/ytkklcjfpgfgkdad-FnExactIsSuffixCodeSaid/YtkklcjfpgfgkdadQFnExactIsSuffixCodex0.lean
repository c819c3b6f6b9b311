/- Written by a program of this session for this claim: functions of the program as Lean functions, and proofs that the calls come to what these say. -/
import Derived.Test.YtkklcjfpgfgkdadProg
import Derived.Below
import Derived.Deep.Draws
import Derived.Deep.AppendLies
import Derived.Maps.AppendAt
import Derived.OwnWalk
import Derived.Laws.BytesArg
import Derived.Laws.MakeOwn
import Derived.Laws.OwnMore
import Derived.Deep.OwnRows
import Derived.Tactics
import Derived.Lib.ConvBytes
import Derived.Laws.Slices
import Derived.WalkKit
import Derived.KernelRfl
import Derived.RowKit3
import Derived.Deep.LoopGhost
import Derived.Deep.QuietTactic
import Derived.BigQuiet
import Derived.WideLaws
import Derived.Deep.DeepCutAuto
import Derived.Deep.CutBlock
import Derived.Deep.RegionHeld3
import Derived.Laws.Rows
import Derived.Lib.AppendStr
import Derived.ArgAppend
import Derived.Laws.IdiomCopy
import Derived.OrdersHeld
import Derived.Laws.BitsLemmas
import Derived.RowKit
import Derived.Test.YtkklcjfpgfgkdadWWords
import Derived.Test.YtkklcjfpgfgkdadWLast
import Derived.Test.YtkklcjfpgfgkdadWTab
import Derived.Test.YtkklcjfpgfgkdadWFour
import Derived.Test.YtkklcjfpgfgkdadWQPut
import Derived.Test.YtkklcjfpgfgkdadWApart
import Derived.Test.YtkklcjfpgfgkdadWArr
import Derived.Test.YtkklcjfpgfgkdadWZeros
import Derived.Test.YtkklcjfpgfgkdadWFoot
import Derived.Test.YtkklcjfpgfgkdadWKept
import Derived.Test.YtkklcjfpgfgkdadWShare
import Derived.Test.YtkklcjfpgfgkdadWN
import Derived.Test.YtkklcjfpgfgkdadWFootNe
import Derived.Test.YtkklcjfpgfgkdadWAt
import Derived.Test.YtkklcjfpgfgkdadWEqStruct
import Derived.Test.YtkklcjfpgfgkdadWRepsOne
import Derived.Test.YtkklcjfpgfgkdadWInv
import Derived.Test.YtkklcjfpgfgkdadWInvWords
import Derived.Test.YtkklcjfpgfgkdadWGuard
import Derived.Test.YtkklcjfpgfgkdadWNEv
import Derived.Test.YtkklcjfpgfgkdadWMore
namespace Go.Proofs.Ytkklcjfpgfgkdad.QFnExactIsSuffixCode
open Go.RowKit Go.Proofs.YtkklcjfpgfgkdadW.PrintWords Go.Proofs.YtkklcjfpgfgkdadW.PrintLast Go.Proofs.YtkklcjfpgfgkdadW.PrintMore
attribute [local go_sem] max2_int min2_int max_two min_two max_three min_three max_four min_four   -- for this text's walks alone
set_option linter.unusedVariables false
set_option linter.unusedSimpArgs false



def errW : Option Int → Value
  | none => .nilIface
  | some c => .iface 0 (.int .i64 c)
theorem errW_none : errW none = .nilIface := rfl
theorem errW_some (c : Int) : errW (some c) = .iface 0 (.int .i64 c) := rfl

theorem info9 : (Try.prog.info? 9).map (fun i => (i.zero, i.size, i.bytes)) = some (some (.string ⟨#[]⟩), 1, 16) := by kernel_rfl
-- the values' own types

end Go.Proofs.Ytkklcjfpgfgkdad.QFnExactIsSuffixCode
