/-
  No cell of these rows narrows 'for every input' (looked for: loops, veiled, ifaces, maps, wideKeys, modest, calm, conditions, laid).
  DERIVED. THE GIVEN ROWS OF THIS SEAT. 6 by the template 'for every input the law returns true; each argument reads behind the call as it read before'; 0 by the template 'total and deterministic' (their statements: YtonfncakpdoglabTotals.lean).
  GIVEN WITH THE SEED: the statements are not yours to turn. If you find one false, say at which input.
  Laid BY PROGRAM, IN A SANDBOX (cutbox-rows.mjs): the forced cells as the released guide's own fill.sh prints them over the translation bfb7193d3a6dc1eb… (all of the seat's roots in one cut). By AI agents, Wed Nov 11 2026. No macro, syntax, notation, axiom, sorry.
-/
import Derived.Test.YtonfncakpdoglabChecked
import GoSem.Claim
import GoSem.ClaimJoined
import GoSem.ClaimMapViews
import Derived.JoinedTies
import Derived.KernelRfl
namespace Go.Proofs.Ytonfncakpdoglab
/- THE CELL 'sum', in the pinned program and in every row, IS THE sha256 OF THE DUMP (.gsa) THAT YtonfncakpdoglabProg.lean LOADS. Nothing in Lean hashes anything: it is a label: what it is worth is what the hold of that sum in a sandbox is worth. -/
noncomputable def Try.pinned : Pinned := { name := "ytonfncakpdoglab", sum := "bfb7193d3a6dc1eb68b8d5e5ffc3018ea3f3962d3bd89389ef1f315a57568774", checked := Try.checked }
namespace Rows
def none {H : Type} : Left H := { results := [], args := [] }

/-- 'laws.FnExactFirstSquare': WHATEVER THE INPUT: true; the input reads as it did. -/
def fnExactFirstSquareSpec : ChangeSpec := { name := "fnExactFirstSquare", fn := fun _ => fun
  | [d] => { results := [.lit (.bool true)], args := [d] }
  | _ => none }
def fnExactFirstSquareRow : OpenClaim := { program := "ytonfncakpdoglab", sum := "bfb7193d3a6dc1eb68b8d5e5ffc3018ea3f3962d3bd89389ef1f315a57568774", func := "loop.example/g03201/laws.FnExactFirstSquare", spec := "fnExactFirstSquare", unfollowed := true, recurses := true, apart := false }
def FnExactFirstSquareSaid : Prop := fnExactFirstSquareRow.holds Try.pinned (OpenSpec.ofChange fnExactFirstSquareSpec)

/-- ITS FALSE NEIGHBOUR: 'it returns false'. Refute it at one input. -/
def fnExactFirstSquareWrong : ChangeSpec := { name := "fnExactFirstSquare", fn := fun _ => fun
  | [d] => { results := [.lit (.bool false)], args := [d] }
  | _ => none }
def FnExactFirstSquareWrongFalsely : Prop := fnExactFirstSquareRow.holds Try.pinned (OpenSpec.ofChange fnExactFirstSquareWrong)

/-- 'laws.FnExactFirstPower': WHATEVER THE INPUT: true; the input reads as it did. -/
def fnExactFirstPowerSpec : ChangeSpec := { name := "fnExactFirstPower", fn := fun _ => fun
  | [d1, d2] => { results := [.lit (.bool true)], args := [d1, d2] }
  | _ => none }
def fnExactFirstPowerRow : OpenClaim := { program := "ytonfncakpdoglab", sum := "bfb7193d3a6dc1eb68b8d5e5ffc3018ea3f3962d3bd89389ef1f315a57568774", func := "loop.example/g03201/laws.FnExactFirstPower", spec := "fnExactFirstPower", unfollowed := true, recurses := true, apart := false }
def FnExactFirstPowerSaid : Prop := fnExactFirstPowerRow.holds Try.pinned (OpenSpec.ofChange fnExactFirstPowerSpec)

/-- ITS FALSE NEIGHBOUR: 'it returns false'. Refute it at one input. -/
def fnExactFirstPowerWrong : ChangeSpec := { name := "fnExactFirstPower", fn := fun _ => fun
  | [d1, d2] => { results := [.lit (.bool false)], args := [d1, d2] }
  | _ => none }
def FnExactFirstPowerWrongFalsely : Prop := fnExactFirstPowerRow.holds Try.pinned (OpenSpec.ofChange fnExactFirstPowerWrong)

/-- 'laws.FnExactIsCubeFree': WHATEVER THE INPUT: true; the input reads as it did. -/
def fnExactIsCubeFreeSpec : ChangeSpec := { name := "fnExactIsCubeFree", fn := fun _ => fun
  | [d] => { results := [.lit (.bool true)], args := [d] }
  | _ => none }
def fnExactIsCubeFreeRow : OpenClaim := { program := "ytonfncakpdoglab", sum := "bfb7193d3a6dc1eb68b8d5e5ffc3018ea3f3962d3bd89389ef1f315a57568774", func := "loop.example/g03201/laws.FnExactIsCubeFree", spec := "fnExactIsCubeFree", unfollowed := true, recurses := true, apart := false }
def FnExactIsCubeFreeSaid : Prop := fnExactIsCubeFreeRow.holds Try.pinned (OpenSpec.ofChange fnExactIsCubeFreeSpec)

/-- ITS FALSE NEIGHBOUR: 'it returns false'. Refute it at one input. -/
def fnExactIsCubeFreeWrong : ChangeSpec := { name := "fnExactIsCubeFree", fn := fun _ => fun
  | [d] => { results := [.lit (.bool false)], args := [d] }
  | _ => none }
def FnExactIsCubeFreeWrongFalsely : Prop := fnExactIsCubeFreeRow.holds Try.pinned (OpenSpec.ofChange fnExactIsCubeFreeWrong)

/-- 'laws.FnExactIsOverlapFree': WHATEVER THE INPUT: true; the input reads as it did. -/
def fnExactIsOverlapFreeSpec : ChangeSpec := { name := "fnExactIsOverlapFree", fn := fun _ => fun
  | [d] => { results := [.lit (.bool true)], args := [d] }
  | _ => none }
def fnExactIsOverlapFreeRow : OpenClaim := { program := "ytonfncakpdoglab", sum := "bfb7193d3a6dc1eb68b8d5e5ffc3018ea3f3962d3bd89389ef1f315a57568774", func := "loop.example/g03201/laws.FnExactIsOverlapFree", spec := "fnExactIsOverlapFree", unfollowed := true, recurses := true, apart := false }
def FnExactIsOverlapFreeSaid : Prop := fnExactIsOverlapFreeRow.holds Try.pinned (OpenSpec.ofChange fnExactIsOverlapFreeSpec)

/-- ITS FALSE NEIGHBOUR: 'it returns false'. Refute it at one input. -/
def fnExactIsOverlapFreeWrong : ChangeSpec := { name := "fnExactIsOverlapFree", fn := fun _ => fun
  | [d] => { results := [.lit (.bool false)], args := [d] }
  | _ => none }
def FnExactIsOverlapFreeWrongFalsely : Prop := fnExactIsOverlapFreeRow.holds Try.pinned (OpenSpec.ofChange fnExactIsOverlapFreeWrong)

/-- 'laws.FnExactLeastSquareFree': WHATEVER THE INPUT: true; the input reads as it did. -/
def fnExactLeastSquareFreeSpec : ChangeSpec := { name := "fnExactLeastSquareFree", fn := fun _ => fun
  | [d1, d2] => { results := [.lit (.bool true)], args := [d1, d2] }
  | _ => none }
def fnExactLeastSquareFreeRow : OpenClaim := { program := "ytonfncakpdoglab", sum := "bfb7193d3a6dc1eb68b8d5e5ffc3018ea3f3962d3bd89389ef1f315a57568774", func := "loop.example/g03201/laws.FnExactLeastSquareFree", spec := "fnExactLeastSquareFree", recurses := true, apart := false }
def FnExactLeastSquareFreeSaid : Prop := fnExactLeastSquareFreeRow.holds Try.pinned (OpenSpec.ofChange fnExactLeastSquareFreeSpec)

/-- ITS FALSE NEIGHBOUR: 'it returns false'. Refute it at one input. -/
def fnExactLeastSquareFreeWrong : ChangeSpec := { name := "fnExactLeastSquareFree", fn := fun _ => fun
  | [d1, d2] => { results := [.lit (.bool false)], args := [d1, d2] }
  | _ => none }
def FnExactLeastSquareFreeWrongFalsely : Prop := fnExactLeastSquareFreeRow.holds Try.pinned (OpenSpec.ofChange fnExactLeastSquareFreeWrong)

/-- 'laws.FnExactIsSquareFree': WHATEVER THE INPUT: true; the input reads as it did. -/
def fnExactIsSquareFreeSpec : ChangeSpec := { name := "fnExactIsSquareFree", fn := fun _ => fun
  | [d] => { results := [.lit (.bool true)], args := [d] }
  | _ => none }
def fnExactIsSquareFreeRow : OpenClaim := { program := "ytonfncakpdoglab", sum := "bfb7193d3a6dc1eb68b8d5e5ffc3018ea3f3962d3bd89389ef1f315a57568774", func := "loop.example/g03201/laws.FnExactIsSquareFree", spec := "fnExactIsSquareFree", unfollowed := true, recurses := true, apart := false }
def FnExactIsSquareFreeSaid : Prop := fnExactIsSquareFreeRow.holds Try.pinned (OpenSpec.ofChange fnExactIsSquareFreeSpec)

/-- ITS FALSE NEIGHBOUR: 'it returns false'. Refute it at one input. -/
def fnExactIsSquareFreeWrong : ChangeSpec := { name := "fnExactIsSquareFree", fn := fun _ => fun
  | [d] => { results := [.lit (.bool false)], args := [d] }
  | _ => none }
def FnExactIsSquareFreeWrongFalsely : Prop := fnExactIsSquareFreeRow.holds Try.pinned (OpenSpec.ofChange fnExactIsSquareFreeWrong)

/- THE SECOND FORM. 'bulk': how many values and letters a reading holds, each counted each time it is reached (what is shared counts as often as it is met; a slice's spare places count too). A statement '..UptoSaid' is the law's where the arguments, and the package variables that the reading takes, are together of bulk at most 1048576: NARROWER than '..Said'. Prove '..Said' where nothing that the law and all that it calls make is longer than what came in: it says more and counts as full. Else prove '..UptoSaid'. A law counts once. -/
mutual
def uptoBulk {H : Type} : DataW H → Nat
  | .lit (.string bytes) => bytes.length + 1
  | .lit _ => 1
  | .nil => 1
  | .ptr d => uptoBulk d + 1
  | .slice elems spare => uptoBulkAll elems + uptoBulkAll spare + 1
  | .agg parts => uptoBulkAll parts + 1
  | .iface _ d => uptoBulk d + 1
  | .map entries => uptoBulkEntries entries + 1
  | .held _ => 1
def uptoBulkAll {H : Type} : List (DataW H) → Nat
  | [] => 0
  | d :: r => uptoBulk d + uptoBulkAll r
def uptoBulkEntries {H : Type} : List (Lit × DataW H) → Nat
  | [] => 0
  | x :: r => uptoBulkEntry x + uptoBulkEntries r
def uptoBulkEntry {H : Type} : Lit × DataW H → Nat
  | (.string bytes, d) => bytes.length + uptoBulk d + 1
  | (_, d) => uptoBulk d + 1
 end
def uptoSmall : (H : Type) → List (DataW H) → Bool := fun _ ds => decide (uptoBulkAll ds ≤ 1048576)
def OpenSpec.upto (s : _root_.Go.ChangeSpec) : _root_.Go.OpenSpec := { _root_.Go.OpenSpec.ofChange s with cond := some uptoSmall }

/-- 'laws.FnExactFirstSquare', WHERE WHAT IT READS IS OF BULK AT MOST 1048576: true; the input reads as it did. -/
def fnExactFirstSquareUptoRow : OpenClaim := { program := "ytonfncakpdoglab", sum := "bfb7193d3a6dc1eb68b8d5e5ffc3018ea3f3962d3bd89389ef1f315a57568774", func := "loop.example/g03201/laws.FnExactFirstSquare", spec := "fnExactFirstSquare", unfollowed := true, recurses := true, apart := false, narrowed := true }
def FnExactFirstSquareUptoSaid : Prop := fnExactFirstSquareUptoRow.holds Try.pinned (OpenSpec.upto fnExactFirstSquareSpec)

/-- 'laws.FnExactFirstPower', WHERE WHAT IT READS IS OF BULK AT MOST 1048576: true; the input reads as it did. -/
def fnExactFirstPowerUptoRow : OpenClaim := { program := "ytonfncakpdoglab", sum := "bfb7193d3a6dc1eb68b8d5e5ffc3018ea3f3962d3bd89389ef1f315a57568774", func := "loop.example/g03201/laws.FnExactFirstPower", spec := "fnExactFirstPower", unfollowed := true, recurses := true, apart := false, narrowed := true }
def FnExactFirstPowerUptoSaid : Prop := fnExactFirstPowerUptoRow.holds Try.pinned (OpenSpec.upto fnExactFirstPowerSpec)

/-- 'laws.FnExactIsCubeFree', WHERE WHAT IT READS IS OF BULK AT MOST 1048576: true; the input reads as it did. -/
def fnExactIsCubeFreeUptoRow : OpenClaim := { program := "ytonfncakpdoglab", sum := "bfb7193d3a6dc1eb68b8d5e5ffc3018ea3f3962d3bd89389ef1f315a57568774", func := "loop.example/g03201/laws.FnExactIsCubeFree", spec := "fnExactIsCubeFree", unfollowed := true, recurses := true, apart := false, narrowed := true }
def FnExactIsCubeFreeUptoSaid : Prop := fnExactIsCubeFreeUptoRow.holds Try.pinned (OpenSpec.upto fnExactIsCubeFreeSpec)

/-- 'laws.FnExactIsOverlapFree', WHERE WHAT IT READS IS OF BULK AT MOST 1048576: true; the input reads as it did. -/
def fnExactIsOverlapFreeUptoRow : OpenClaim := { program := "ytonfncakpdoglab", sum := "bfb7193d3a6dc1eb68b8d5e5ffc3018ea3f3962d3bd89389ef1f315a57568774", func := "loop.example/g03201/laws.FnExactIsOverlapFree", spec := "fnExactIsOverlapFree", unfollowed := true, recurses := true, apart := false, narrowed := true }
def FnExactIsOverlapFreeUptoSaid : Prop := fnExactIsOverlapFreeUptoRow.holds Try.pinned (OpenSpec.upto fnExactIsOverlapFreeSpec)

/-- 'laws.FnExactLeastSquareFree', WHERE WHAT IT READS IS OF BULK AT MOST 1048576: true; the input reads as it did. -/
def fnExactLeastSquareFreeUptoRow : OpenClaim := { program := "ytonfncakpdoglab", sum := "bfb7193d3a6dc1eb68b8d5e5ffc3018ea3f3962d3bd89389ef1f315a57568774", func := "loop.example/g03201/laws.FnExactLeastSquareFree", spec := "fnExactLeastSquareFree", recurses := true, apart := false, narrowed := true }
def FnExactLeastSquareFreeUptoSaid : Prop := fnExactLeastSquareFreeUptoRow.holds Try.pinned (OpenSpec.upto fnExactLeastSquareFreeSpec)

/-- 'laws.FnExactIsSquareFree', WHERE WHAT IT READS IS OF BULK AT MOST 1048576: true; the input reads as it did. -/
def fnExactIsSquareFreeUptoRow : OpenClaim := { program := "ytonfncakpdoglab", sum := "bfb7193d3a6dc1eb68b8d5e5ffc3018ea3f3962d3bd89389ef1f315a57568774", func := "loop.example/g03201/laws.FnExactIsSquareFree", spec := "fnExactIsSquareFree", unfollowed := true, recurses := true, apart := false, narrowed := true }
def FnExactIsSquareFreeUptoSaid : Prop := fnExactIsSquareFreeUptoRow.holds Try.pinned (OpenSpec.upto fnExactIsSquareFreeSpec)

end Rows
end Go.Proofs.Ytonfncakpdoglab
