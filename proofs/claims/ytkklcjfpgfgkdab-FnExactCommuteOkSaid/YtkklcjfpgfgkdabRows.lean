/-
  No cell of these rows narrows 'for every input' (looked for: loops, veiled, ifaces, maps, wideKeys, modest, calm, conditions, laid).
  DERIVED. THE GIVEN ROWS OF THIS SEAT. 6 by the template 'for every input the law returns true; each argument reads behind the call as it read before'; 0 by the template 'total and deterministic' (their statements: YtkklcjfpgfgkdabTotals.lean).
  GIVEN WITH THE SEED: the statements are not yours to turn. If you find one false, say at which input.
  Laid BY PROGRAM, IN A SANDBOX (cutbox-rows.mjs): the forced cells as the released guide's own fill.sh prints them over the translation cc9ba8099054930b… (all of the seat's roots in one cut). By AI agents, Wed Nov 11 2026. No macro, syntax, notation, axiom, sorry.
-/
import Derived.Test.YtkklcjfpgfgkdabChecked
import GoSem.Claim
import GoSem.ClaimJoined
import GoSem.ClaimMapViews
import Derived.JoinedTies
import Derived.KernelRfl
namespace Go.Proofs.Ytkklcjfpgfgkdab
/- THE CELL 'sum', in the pinned program and in every row, IS THE sha256 OF THE DUMP (.gsa) THAT YtkklcjfpgfgkdabProg.lean LOADS. Nothing in Lean hashes anything: it is a label: what it is worth is what the hold of that sum in a sandbox is worth. -/
noncomputable def Try.pinned : Pinned := { name := "ytkklcjfpgfgkdab", sum := "cc9ba8099054930b8d744ed15e5a6319bfc096a6b6f4a70606c7437fad44311a", checked := Try.checked }
namespace Rows
def none {H : Type} : Left H := { results := [], args := [] }

/-- 'laws.FnExactLeastPeriod': WHATEVER THE INPUT: true; the input reads as it did. -/
def fnExactLeastPeriodSpec : ChangeSpec := { name := "fnExactLeastPeriod", fn := fun _ => fun
  | [d] => { results := [.lit (.bool true)], args := [d] }
  | _ => none }
def fnExactLeastPeriodRow : OpenClaim := { program := "ytkklcjfpgfgkdab", sum := "cc9ba8099054930b8d744ed15e5a6319bfc096a6b6f4a70606c7437fad44311a", func := "loop.example/g03201/laws.FnExactLeastPeriod", spec := "fnExactLeastPeriod", apart := false }
def FnExactLeastPeriodSaid : Prop := fnExactLeastPeriodRow.holds Try.pinned (OpenSpec.ofChange fnExactLeastPeriodSpec)

/-- ITS FALSE NEIGHBOUR: 'it returns false'. Refute it at one input. -/
def fnExactLeastPeriodWrong : ChangeSpec := { name := "fnExactLeastPeriod", fn := fun _ => fun
  | [d] => { results := [.lit (.bool false)], args := [d] }
  | _ => none }
def FnExactLeastPeriodWrongFalsely : Prop := fnExactLeastPeriodRow.holds Try.pinned (OpenSpec.ofChange fnExactLeastPeriodWrong)

/-- 'laws.FnExactCommuteOk': WHATEVER THE INPUT: true; the input reads as it did. -/
def fnExactCommuteOkSpec : ChangeSpec := { name := "fnExactCommuteOk", fn := fun _ => fun
  | [d1, d2] => { results := [.lit (.bool true)], args := [d1, d2] }
  | _ => none }
def fnExactCommuteOkRow : OpenClaim := { program := "ytkklcjfpgfgkdab", sum := "cc9ba8099054930b8d744ed15e5a6319bfc096a6b6f4a70606c7437fad44311a", func := "loop.example/g03201/laws.FnExactCommuteOk", spec := "fnExactCommuteOk", apart := false }
def FnExactCommuteOkSaid : Prop := fnExactCommuteOkRow.holds Try.pinned (OpenSpec.ofChange fnExactCommuteOkSpec)

/-- ITS FALSE NEIGHBOUR: 'it returns false'. Refute it at one input. -/
def fnExactCommuteOkWrong : ChangeSpec := { name := "fnExactCommuteOk", fn := fun _ => fun
  | [d1, d2] => { results := [.lit (.bool false)], args := [d1, d2] }
  | _ => none }
def FnExactCommuteOkWrongFalsely : Prop := fnExactCommuteOkRow.holds Try.pinned (OpenSpec.ofChange fnExactCommuteOkWrong)

/-- 'laws.FnExactListOk': WHATEVER THE INPUT: true; the input reads as it did. -/
def fnExactListOkSpec : ChangeSpec := { name := "fnExactListOk", fn := fun _ => fun
  | [d] => { results := [.lit (.bool true)], args := [d] }
  | _ => none }
def fnExactListOkRow : OpenClaim := { program := "ytkklcjfpgfgkdab", sum := "cc9ba8099054930b8d744ed15e5a6319bfc096a6b6f4a70606c7437fad44311a", func := "loop.example/g03201/laws.FnExactListOk", spec := "fnExactListOk", apart := false }
def FnExactListOkSaid : Prop := fnExactListOkRow.holds Try.pinned (OpenSpec.ofChange fnExactListOkSpec)

/-- ITS FALSE NEIGHBOUR: 'it returns false'. Refute it at one input. -/
def fnExactListOkWrong : ChangeSpec := { name := "fnExactListOk", fn := fun _ => fun
  | [d] => { results := [.lit (.bool false)], args := [d] }
  | _ => none }
def FnExactListOkWrongFalsely : Prop := fnExactListOkRow.holds Try.pinned (OpenSpec.ofChange fnExactListOkWrong)

/-- 'laws.FnExactCountSquareFree': WHATEVER THE INPUT: true; the input reads as it did. -/
def fnExactCountSquareFreeSpec : ChangeSpec := { name := "fnExactCountSquareFree", fn := fun _ => fun
  | [d1, d2] => { results := [.lit (.bool true)], args := [d1, d2] }
  | _ => none }
def fnExactCountSquareFreeRow : OpenClaim := { program := "ytkklcjfpgfgkdab", sum := "cc9ba8099054930b8d744ed15e5a6319bfc096a6b6f4a70606c7437fad44311a", func := "loop.example/g03201/laws.FnExactCountSquareFree", spec := "fnExactCountSquareFree", unfollowed := true, recurses := true, apart := false }
def FnExactCountSquareFreeSaid : Prop := fnExactCountSquareFreeRow.holds Try.pinned (OpenSpec.ofChange fnExactCountSquareFreeSpec)

/-- ITS FALSE NEIGHBOUR: 'it returns false'. Refute it at one input. -/
def fnExactCountSquareFreeWrong : ChangeSpec := { name := "fnExactCountSquareFree", fn := fun _ => fun
  | [d1, d2] => { results := [.lit (.bool false)], args := [d1, d2] }
  | _ => none }
def FnExactCountSquareFreeWrongFalsely : Prop := fnExactCountSquareFreeRow.holds Try.pinned (OpenSpec.ofChange fnExactCountSquareFreeWrong)

/-- 'laws.FnExactPeriodsOf': WHATEVER THE INPUT: true; the input reads as it did. -/
def fnExactPeriodsOfSpec : ChangeSpec := { name := "fnExactPeriodsOf", fn := fun _ => fun
  | [d] => { results := [.lit (.bool true)], args := [d] }
  | _ => none }
def fnExactPeriodsOfRow : OpenClaim := { program := "ytkklcjfpgfgkdab", sum := "cc9ba8099054930b8d744ed15e5a6319bfc096a6b6f4a70606c7437fad44311a", func := "loop.example/g03201/laws.FnExactPeriodsOf", spec := "fnExactPeriodsOf", apart := false }
def FnExactPeriodsOfSaid : Prop := fnExactPeriodsOfRow.holds Try.pinned (OpenSpec.ofChange fnExactPeriodsOfSpec)

/-- ITS FALSE NEIGHBOUR: 'it returns false'. Refute it at one input. -/
def fnExactPeriodsOfWrong : ChangeSpec := { name := "fnExactPeriodsOf", fn := fun _ => fun
  | [d] => { results := [.lit (.bool false)], args := [d] }
  | _ => none }
def FnExactPeriodsOfWrongFalsely : Prop := fnExactPeriodsOfRow.holds Try.pinned (OpenSpec.ofChange fnExactPeriodsOfWrong)

/-- 'laws.FnExactFindAll': WHATEVER THE INPUT: true; the input reads as it did. -/
def fnExactFindAllSpec : ChangeSpec := { name := "fnExactFindAll", fn := fun _ => fun
  | [d1, d2] => { results := [.lit (.bool true)], args := [d1, d2] }
  | _ => none }
def fnExactFindAllRow : OpenClaim := { program := "ytkklcjfpgfgkdab", sum := "cc9ba8099054930b8d744ed15e5a6319bfc096a6b6f4a70606c7437fad44311a", func := "loop.example/g03201/laws.FnExactFindAll", spec := "fnExactFindAll", apart := false }
def FnExactFindAllSaid : Prop := fnExactFindAllRow.holds Try.pinned (OpenSpec.ofChange fnExactFindAllSpec)

/-- ITS FALSE NEIGHBOUR: 'it returns false'. Refute it at one input. -/
def fnExactFindAllWrong : ChangeSpec := { name := "fnExactFindAll", fn := fun _ => fun
  | [d1, d2] => { results := [.lit (.bool false)], args := [d1, d2] }
  | _ => none }
def FnExactFindAllWrongFalsely : Prop := fnExactFindAllRow.holds Try.pinned (OpenSpec.ofChange fnExactFindAllWrong)

/- THE SECOND FORM. 'bulk': how many values and letters a reading holds, each counted each time it is reached (what is shared counts as often as it is met; a slice's spare places count too). A statement '..UptoSaid' is the law's where the arguments, and the package variables that the reading takes, are together of bulk at most 1048576: NARROWER than '..Said'. Prove '..Said' where nothing that the law and all that it calls make is longer than what came in: it says more and counts as full. Else prove '..UptoSaid'. A law counts once. -/
mutual
def uptoBulk {H : Type} : DataW H → Nat
  | .lit (.string bytes) => bytes.length + 1
  | .lit _ => 1
  | .nil => 1
  | .ptr d => uptoBulk d + 1
  | .slice elems spare => uptoBulkAll elems + uptoBulkAll spare + 1
  | .agg parts => uptoBulkAll parts + 1
  | .iface _ d => uptoBulk d + 1
  | .map entries => uptoBulkEntries entries + 1
  | .held _ => 1
def uptoBulkAll {H : Type} : List (DataW H) → Nat
  | [] => 0
  | d :: r => uptoBulk d + uptoBulkAll r
def uptoBulkEntries {H : Type} : List (Lit × DataW H) → Nat
  | [] => 0
  | x :: r => uptoBulkEntry x + uptoBulkEntries r
def uptoBulkEntry {H : Type} : Lit × DataW H → Nat
  | (.string bytes, d) => bytes.length + uptoBulk d + 1
  | (_, d) => uptoBulk d + 1
 end
def uptoSmall : (H : Type) → List (DataW H) → Bool := fun _ ds => decide (uptoBulkAll ds ≤ 1048576)
def OpenSpec.upto (s : _root_.Go.ChangeSpec) : _root_.Go.OpenSpec := { _root_.Go.OpenSpec.ofChange s with cond := some uptoSmall }

/-- 'laws.FnExactLeastPeriod', WHERE WHAT IT READS IS OF BULK AT MOST 1048576: true; the input reads as it did. -/
def fnExactLeastPeriodUptoRow : OpenClaim := { program := "ytkklcjfpgfgkdab", sum := "cc9ba8099054930b8d744ed15e5a6319bfc096a6b6f4a70606c7437fad44311a", func := "loop.example/g03201/laws.FnExactLeastPeriod", spec := "fnExactLeastPeriod", apart := false, narrowed := true }
def FnExactLeastPeriodUptoSaid : Prop := fnExactLeastPeriodUptoRow.holds Try.pinned (OpenSpec.upto fnExactLeastPeriodSpec)

/-- 'laws.FnExactCommuteOk', WHERE WHAT IT READS IS OF BULK AT MOST 1048576: true; the input reads as it did. -/
def fnExactCommuteOkUptoRow : OpenClaim := { program := "ytkklcjfpgfgkdab", sum := "cc9ba8099054930b8d744ed15e5a6319bfc096a6b6f4a70606c7437fad44311a", func := "loop.example/g03201/laws.FnExactCommuteOk", spec := "fnExactCommuteOk", apart := false, narrowed := true }
def FnExactCommuteOkUptoSaid : Prop := fnExactCommuteOkUptoRow.holds Try.pinned (OpenSpec.upto fnExactCommuteOkSpec)

/-- 'laws.FnExactListOk', WHERE WHAT IT READS IS OF BULK AT MOST 1048576: true; the input reads as it did. -/
def fnExactListOkUptoRow : OpenClaim := { program := "ytkklcjfpgfgkdab", sum := "cc9ba8099054930b8d744ed15e5a6319bfc096a6b6f4a70606c7437fad44311a", func := "loop.example/g03201/laws.FnExactListOk", spec := "fnExactListOk", apart := false, narrowed := true }
def FnExactListOkUptoSaid : Prop := fnExactListOkUptoRow.holds Try.pinned (OpenSpec.upto fnExactListOkSpec)

/-- 'laws.FnExactCountSquareFree', WHERE WHAT IT READS IS OF BULK AT MOST 1048576: true; the input reads as it did. -/
def fnExactCountSquareFreeUptoRow : OpenClaim := { program := "ytkklcjfpgfgkdab", sum := "cc9ba8099054930b8d744ed15e5a6319bfc096a6b6f4a70606c7437fad44311a", func := "loop.example/g03201/laws.FnExactCountSquareFree", spec := "fnExactCountSquareFree", unfollowed := true, recurses := true, apart := false, narrowed := true }
def FnExactCountSquareFreeUptoSaid : Prop := fnExactCountSquareFreeUptoRow.holds Try.pinned (OpenSpec.upto fnExactCountSquareFreeSpec)

/-- 'laws.FnExactPeriodsOf', WHERE WHAT IT READS IS OF BULK AT MOST 1048576: true; the input reads as it did. -/
def fnExactPeriodsOfUptoRow : OpenClaim := { program := "ytkklcjfpgfgkdab", sum := "cc9ba8099054930b8d744ed15e5a6319bfc096a6b6f4a70606c7437fad44311a", func := "loop.example/g03201/laws.FnExactPeriodsOf", spec := "fnExactPeriodsOf", apart := false, narrowed := true }
def FnExactPeriodsOfUptoSaid : Prop := fnExactPeriodsOfUptoRow.holds Try.pinned (OpenSpec.upto fnExactPeriodsOfSpec)

/-- 'laws.FnExactFindAll', WHERE WHAT IT READS IS OF BULK AT MOST 1048576: true; the input reads as it did. -/
def fnExactFindAllUptoRow : OpenClaim := { program := "ytkklcjfpgfgkdab", sum := "cc9ba8099054930b8d744ed15e5a6319bfc096a6b6f4a70606c7437fad44311a", func := "loop.example/g03201/laws.FnExactFindAll", spec := "fnExactFindAll", apart := false, narrowed := true }
def FnExactFindAllUptoSaid : Prop := fnExactFindAllUptoRow.holds Try.pinned (OpenSpec.upto fnExactFindAllSpec)

end Rows
end Go.Proofs.Ytkklcjfpgfgkdab
