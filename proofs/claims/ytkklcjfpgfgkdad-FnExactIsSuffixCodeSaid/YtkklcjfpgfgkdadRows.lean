/-
  No cell of these rows narrows 'for every input' (looked for: loops, veiled, ifaces, maps, wideKeys, modest, calm, conditions, laid).
  DERIVED. THE GIVEN ROWS OF THIS SEAT. 6 by the template 'for every input the law returns true; each argument reads behind the call as it read before'; 0 by the template 'total and deterministic' (their statements: YtkklcjfpgfgkdadTotals.lean).
  GIVEN WITH THE SEED: the statements are not yours to turn. If you find one false, say at which input.
  Laid BY PROGRAM, IN A SANDBOX (cutbox-rows.mjs): the forced cells as the released guide's own fill.sh prints them over the translation dbb80aff7fef4570… (all of the seat's roots in one cut). By AI agents, Wed Nov 11 2026. No macro, syntax, notation, axiom, sorry.
-/
import Derived.Test.YtkklcjfpgfgkdadChecked
import GoSem.Claim
import GoSem.ClaimJoined
import GoSem.ClaimMapViews
import Derived.JoinedTies
import Derived.KernelRfl
namespace Go.Proofs.Ytkklcjfpgfgkdad
/- THE CELL 'sum', in the pinned program and in every row, IS THE sha256 OF THE DUMP (.gsa) THAT YtkklcjfpgfgkdadProg.lean LOADS. Nothing in Lean hashes anything: it is a label: what it is worth is what the hold of that sum in a sandbox is worth. -/
noncomputable def Try.pinned : Pinned := { name := "ytkklcjfpgfgkdad", sum := "dbb80aff7fef45705ee2381b71c84617037d9bd7a150180f1112649e3468e8de", checked := Try.checked }
namespace Rows
def none {H : Type} : Left H := { results := [], args := [] }

/-- 'laws.FnExactSubstitute': WHATEVER THE INPUT: true; the input reads as it did. -/
def fnExactSubstituteSpec : ChangeSpec := { name := "fnExactSubstitute", fn := fun _ => fun
  | [d1, d2] => { results := [.lit (.bool true)], args := [d1, d2] }
  | _ => none }
def fnExactSubstituteRow : OpenClaim := { program := "ytkklcjfpgfgkdad", sum := "dbb80aff7fef45705ee2381b71c84617037d9bd7a150180f1112649e3468e8de", func := "loop.example/g03201/laws.FnExactSubstitute", spec := "fnExactSubstitute", inPlace := ["internal/abi.NoEscape"], unfollowed := true, recurses := true, apart := false }
def FnExactSubstituteSaid : Prop := fnExactSubstituteRow.holds Try.pinned (OpenSpec.ofChange fnExactSubstituteSpec)

/-- ITS FALSE NEIGHBOUR: 'it returns false'. Refute it at one input. -/
def fnExactSubstituteWrong : ChangeSpec := { name := "fnExactSubstitute", fn := fun _ => fun
  | [d1, d2] => { results := [.lit (.bool false)], args := [d1, d2] }
  | _ => none }
def FnExactSubstituteWrongFalsely : Prop := fnExactSubstituteRow.holds Try.pinned (OpenSpec.ofChange fnExactSubstituteWrong)

/-- 'laws.FnExactIsPrefixCode': WHATEVER THE INPUT: true; the input reads as it did. -/
def fnExactIsPrefixCodeSpec : ChangeSpec := { name := "fnExactIsPrefixCode", fn := fun _ => fun
  | [d] => { results := [.lit (.bool true)], args := [d] }
  | _ => none }
def fnExactIsPrefixCodeRow : OpenClaim := { program := "ytkklcjfpgfgkdad", sum := "dbb80aff7fef45705ee2381b71c84617037d9bd7a150180f1112649e3468e8de", func := "loop.example/g03201/laws.FnExactIsPrefixCode", spec := "fnExactIsPrefixCode", unfollowed := true, recurses := true, apart := false }
def FnExactIsPrefixCodeSaid : Prop := fnExactIsPrefixCodeRow.holds Try.pinned (OpenSpec.ofChange fnExactIsPrefixCodeSpec)

/-- ITS FALSE NEIGHBOUR: 'it returns false'. Refute it at one input. -/
def fnExactIsPrefixCodeWrong : ChangeSpec := { name := "fnExactIsPrefixCode", fn := fun _ => fun
  | [d] => { results := [.lit (.bool false)], args := [d] }
  | _ => none }
def FnExactIsPrefixCodeWrongFalsely : Prop := fnExactIsPrefixCodeRow.holds Try.pinned (OpenSpec.ofChange fnExactIsPrefixCodeWrong)

/-- 'laws.FnExactLeastTrace': WHATEVER THE INPUT: true; the input reads as it did. -/
def fnExactLeastTraceSpec : ChangeSpec := { name := "fnExactLeastTrace", fn := fun _ => fun
  | [d1, d2, d3] => { results := [.lit (.bool true)], args := [d1, d2, d3] }
  | _ => none }
def fnExactLeastTraceRow : OpenClaim := { program := "ytkklcjfpgfgkdad", sum := "dbb80aff7fef45705ee2381b71c84617037d9bd7a150180f1112649e3468e8de", func := "loop.example/g03201/laws.FnExactLeastTrace", spec := "fnExactLeastTrace", apart := false }
def FnExactLeastTraceSaid : Prop := fnExactLeastTraceRow.holds Try.pinned (OpenSpec.ofChange fnExactLeastTraceSpec)

/-- ITS FALSE NEIGHBOUR: 'it returns false'. Refute it at one input. -/
def fnExactLeastTraceWrong : ChangeSpec := { name := "fnExactLeastTrace", fn := fun _ => fun
  | [d1, d2, d3] => { results := [.lit (.bool false)], args := [d1, d2, d3] }
  | _ => none }
def FnExactLeastTraceWrongFalsely : Prop := fnExactLeastTraceRow.holds Try.pinned (OpenSpec.ofChange fnExactLeastTraceWrong)

/-- 'laws.FnExactSameTrace': WHATEVER THE INPUT: true; the input reads as it did. -/
def fnExactSameTraceSpec : ChangeSpec := { name := "fnExactSameTrace", fn := fun _ => fun
  | [d1, d2, d3, d4] => { results := [.lit (.bool true)], args := [d1, d2, d3, d4] }
  | _ => none }
def fnExactSameTraceRow : OpenClaim := { program := "ytkklcjfpgfgkdad", sum := "dbb80aff7fef45705ee2381b71c84617037d9bd7a150180f1112649e3468e8de", func := "loop.example/g03201/laws.FnExactSameTrace", spec := "fnExactSameTrace", apart := false }
def FnExactSameTraceSaid : Prop := fnExactSameTraceRow.holds Try.pinned (OpenSpec.ofChange fnExactSameTraceSpec)

/-- ITS FALSE NEIGHBOUR: 'it returns false'. Refute it at one input. -/
def fnExactSameTraceWrong : ChangeSpec := { name := "fnExactSameTrace", fn := fun _ => fun
  | [d1, d2, d3, d4] => { results := [.lit (.bool false)], args := [d1, d2, d3, d4] }
  | _ => none }
def FnExactSameTraceWrongFalsely : Prop := fnExactSameTraceRow.holds Try.pinned (OpenSpec.ofChange fnExactSameTraceWrong)

/-- 'laws.FnExactSubstituteTimes': WHATEVER THE INPUT: true; the input reads as it did. -/
def fnExactSubstituteTimesSpec : ChangeSpec := { name := "fnExactSubstituteTimes", fn := fun _ => fun
  | [d1, d2, d3] => { results := [.lit (.bool true)], args := [d1, d2, d3] }
  | _ => none }
def fnExactSubstituteTimesRow : OpenClaim := { program := "ytkklcjfpgfgkdad", sum := "dbb80aff7fef45705ee2381b71c84617037d9bd7a150180f1112649e3468e8de", func := "loop.example/g03201/laws.FnExactSubstituteTimes", spec := "fnExactSubstituteTimes", inPlace := ["internal/abi.NoEscape"], unfollowed := true, recurses := true, apart := false }
def FnExactSubstituteTimesSaid : Prop := fnExactSubstituteTimesRow.holds Try.pinned (OpenSpec.ofChange fnExactSubstituteTimesSpec)

/-- ITS FALSE NEIGHBOUR: 'it returns false'. Refute it at one input. -/
def fnExactSubstituteTimesWrong : ChangeSpec := { name := "fnExactSubstituteTimes", fn := fun _ => fun
  | [d1, d2, d3] => { results := [.lit (.bool false)], args := [d1, d2, d3] }
  | _ => none }
def FnExactSubstituteTimesWrongFalsely : Prop := fnExactSubstituteTimesRow.holds Try.pinned (OpenSpec.ofChange fnExactSubstituteTimesWrong)

/-- 'laws.FnExactIsSuffixCode': WHATEVER THE INPUT: true; the input reads as it did. -/
def fnExactIsSuffixCodeSpec : ChangeSpec := { name := "fnExactIsSuffixCode", fn := fun _ => fun
  | [d] => { results := [.lit (.bool true)], args := [d] }
  | _ => none }
def fnExactIsSuffixCodeRow : OpenClaim := { program := "ytkklcjfpgfgkdad", sum := "dbb80aff7fef45705ee2381b71c84617037d9bd7a150180f1112649e3468e8de", func := "loop.example/g03201/laws.FnExactIsSuffixCode", spec := "fnExactIsSuffixCode", unfollowed := true, recurses := true, apart := false }
def FnExactIsSuffixCodeSaid : Prop := fnExactIsSuffixCodeRow.holds Try.pinned (OpenSpec.ofChange fnExactIsSuffixCodeSpec)

/-- ITS FALSE NEIGHBOUR: 'it returns false'. Refute it at one input. -/
def fnExactIsSuffixCodeWrong : ChangeSpec := { name := "fnExactIsSuffixCode", fn := fun _ => fun
  | [d] => { results := [.lit (.bool false)], args := [d] }
  | _ => none }
def FnExactIsSuffixCodeWrongFalsely : Prop := fnExactIsSuffixCodeRow.holds Try.pinned (OpenSpec.ofChange fnExactIsSuffixCodeWrong)

/- THE SECOND FORM. 'bulk': how many values and letters a reading holds, each counted each time it is reached (what is shared counts as often as it is met; a slice's spare places count too). A statement '..UptoSaid' is the law's where the arguments, and the package variables that the reading takes, are together of bulk at most 1048576: NARROWER than '..Said'. Prove '..Said' where nothing that the law and all that it calls make is longer than what came in: it says more and counts as full. Else prove '..UptoSaid'. A law counts once. -/
mutual
def uptoBulk {H : Type} : DataW H → Nat
  | .lit (.string bytes) => bytes.length + 1
  | .lit _ => 1
  | .nil => 1
  | .ptr d => uptoBulk d + 1
  | .slice elems spare => uptoBulkAll elems + uptoBulkAll spare + 1
  | .agg parts => uptoBulkAll parts + 1
  | .iface _ d => uptoBulk d + 1
  | .map entries => uptoBulkEntries entries + 1
  | .held _ => 1
def uptoBulkAll {H : Type} : List (DataW H) → Nat
  | [] => 0
  | d :: r => uptoBulk d + uptoBulkAll r
def uptoBulkEntries {H : Type} : List (Lit × DataW H) → Nat
  | [] => 0
  | x :: r => uptoBulkEntry x + uptoBulkEntries r
def uptoBulkEntry {H : Type} : Lit × DataW H → Nat
  | (.string bytes, d) => bytes.length + uptoBulk d + 1
  | (_, d) => uptoBulk d + 1
 end
def uptoSmall : (H : Type) → List (DataW H) → Bool := fun _ ds => decide (uptoBulkAll ds ≤ 1048576)
def OpenSpec.upto (s : _root_.Go.ChangeSpec) : _root_.Go.OpenSpec := { _root_.Go.OpenSpec.ofChange s with cond := some uptoSmall }

/-- 'laws.FnExactSubstitute', WHERE WHAT IT READS IS OF BULK AT MOST 1048576: true; the input reads as it did. -/
def fnExactSubstituteUptoRow : OpenClaim := { program := "ytkklcjfpgfgkdad", sum := "dbb80aff7fef45705ee2381b71c84617037d9bd7a150180f1112649e3468e8de", func := "loop.example/g03201/laws.FnExactSubstitute", spec := "fnExactSubstitute", inPlace := ["internal/abi.NoEscape"], unfollowed := true, recurses := true, apart := false, narrowed := true }
def FnExactSubstituteUptoSaid : Prop := fnExactSubstituteUptoRow.holds Try.pinned (OpenSpec.upto fnExactSubstituteSpec)

/-- 'laws.FnExactIsPrefixCode', WHERE WHAT IT READS IS OF BULK AT MOST 1048576: true; the input reads as it did. -/
def fnExactIsPrefixCodeUptoRow : OpenClaim := { program := "ytkklcjfpgfgkdad", sum := "dbb80aff7fef45705ee2381b71c84617037d9bd7a150180f1112649e3468e8de", func := "loop.example/g03201/laws.FnExactIsPrefixCode", spec := "fnExactIsPrefixCode", unfollowed := true, recurses := true, apart := false, narrowed := true }
def FnExactIsPrefixCodeUptoSaid : Prop := fnExactIsPrefixCodeUptoRow.holds Try.pinned (OpenSpec.upto fnExactIsPrefixCodeSpec)

/-- 'laws.FnExactLeastTrace', WHERE WHAT IT READS IS OF BULK AT MOST 1048576: true; the input reads as it did. -/
def fnExactLeastTraceUptoRow : OpenClaim := { program := "ytkklcjfpgfgkdad", sum := "dbb80aff7fef45705ee2381b71c84617037d9bd7a150180f1112649e3468e8de", func := "loop.example/g03201/laws.FnExactLeastTrace", spec := "fnExactLeastTrace", apart := false, narrowed := true }
def FnExactLeastTraceUptoSaid : Prop := fnExactLeastTraceUptoRow.holds Try.pinned (OpenSpec.upto fnExactLeastTraceSpec)

/-- 'laws.FnExactSameTrace', WHERE WHAT IT READS IS OF BULK AT MOST 1048576: true; the input reads as it did. -/
def fnExactSameTraceUptoRow : OpenClaim := { program := "ytkklcjfpgfgkdad", sum := "dbb80aff7fef45705ee2381b71c84617037d9bd7a150180f1112649e3468e8de", func := "loop.example/g03201/laws.FnExactSameTrace", spec := "fnExactSameTrace", apart := false, narrowed := true }
def FnExactSameTraceUptoSaid : Prop := fnExactSameTraceUptoRow.holds Try.pinned (OpenSpec.upto fnExactSameTraceSpec)

/-- 'laws.FnExactSubstituteTimes', WHERE WHAT IT READS IS OF BULK AT MOST 1048576: true; the input reads as it did. -/
def fnExactSubstituteTimesUptoRow : OpenClaim := { program := "ytkklcjfpgfgkdad", sum := "dbb80aff7fef45705ee2381b71c84617037d9bd7a150180f1112649e3468e8de", func := "loop.example/g03201/laws.FnExactSubstituteTimes", spec := "fnExactSubstituteTimes", inPlace := ["internal/abi.NoEscape"], unfollowed := true, recurses := true, apart := false, narrowed := true }
def FnExactSubstituteTimesUptoSaid : Prop := fnExactSubstituteTimesUptoRow.holds Try.pinned (OpenSpec.upto fnExactSubstituteTimesSpec)

/-- 'laws.FnExactIsSuffixCode', WHERE WHAT IT READS IS OF BULK AT MOST 1048576: true; the input reads as it did. -/
def fnExactIsSuffixCodeUptoRow : OpenClaim := { program := "ytkklcjfpgfgkdad", sum := "dbb80aff7fef45705ee2381b71c84617037d9bd7a150180f1112649e3468e8de", func := "loop.example/g03201/laws.FnExactIsSuffixCode", spec := "fnExactIsSuffixCode", unfollowed := true, recurses := true, apart := false, narrowed := true }
def FnExactIsSuffixCodeUptoSaid : Prop := fnExactIsSuffixCodeUptoRow.holds Try.pinned (OpenSpec.upto fnExactIsSuffixCodeSpec)

end Rows
end Go.Proofs.Ytkklcjfpgfgkdad
