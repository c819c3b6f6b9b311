/-
  No cell of these rows narrows 'for every input' (looked for: loops, veiled, ifaces, maps, wideKeys, modest, calm, conditions, laid).
  DERIVED. THE GIVEN ROWS OF THIS SEAT. 6 by the template 'for every input the law returns true; each argument reads behind the call as it read before'; 0 by the template 'total and deterministic' (their statements: YtkklcjfpgfgkdaaTotals.lean).
  GIVEN WITH THE SEED: the statements are not yours to turn. If you find one false, say at which input.
  Laid BY PROGRAM, IN A SANDBOX (cutbox-rows.mjs): the forced cells as the released guide's own fill.sh prints them over the translation 8e6d59637bec6722… (all of the seat's roots in one cut). By AI agents, Wed Nov 11 2026. No macro, syntax, notation, axiom, sorry.
-/
import Derived.Test.YtkklcjfpgfgkdaaChecked
import GoSem.Claim
import GoSem.ClaimJoined
import GoSem.ClaimMapViews
import Derived.JoinedTies
import Derived.KernelRfl
namespace Go.Proofs.Ytkklcjfpgfgkdaa
/- THE CELL 'sum', in the pinned program and in every row, IS THE sha256 OF THE DUMP (.gsa) THAT YtkklcjfpgfgkdaaProg.lean LOADS. Nothing in Lean hashes anything: it is a label: what it is worth is what the hold of that sum in a sandbox is worth. -/
noncomputable def Try.pinned : Pinned := { name := "ytkklcjfpgfgkdaa", sum := "8e6d59637bec6722ba4a0319a3bfbae3b74259761573cb55446dea6fc04f94e2", checked := Try.checked }
namespace Rows
def none {H : Type} : Left H := { results := [], args := [] }

/-- 'laws.FnTraces': WHATEVER THE INPUT: true; the input reads as it did. -/
def fnTracesSpec : ChangeSpec := { name := "fnTraces", fn := fun _ => fun
  | [d] => { results := [.lit (.bool true)], args := [d] }
  | _ => none }
def fnTracesRow : OpenClaim := { program := "ytkklcjfpgfgkdaa", sum := "8e6d59637bec6722ba4a0319a3bfbae3b74259761573cb55446dea6fc04f94e2", func := "loop.example/g03201/laws.FnTraces", spec := "fnTraces", unfollowed := true, recurses := true, apart := false }
def FnTracesSaid : Prop := fnTracesRow.holds Try.pinned (OpenSpec.ofChange fnTracesSpec)

/-- ITS FALSE NEIGHBOUR: 'it returns false'. Refute it at one input. -/
def fnTracesWrong : ChangeSpec := { name := "fnTraces", fn := fun _ => fun
  | [d] => { results := [.lit (.bool false)], args := [d] }
  | _ => none }
def FnTracesWrongFalsely : Prop := fnTracesRow.holds Try.pinned (OpenSpec.ofChange fnTracesWrong)

/-- 'laws.FnExactSubstitutionOk': WHATEVER THE INPUT: true; the input reads as it did. -/
def fnExactSubstitutionOkSpec : ChangeSpec := { name := "fnExactSubstitutionOk", fn := fun _ => fun
  | [d] => { results := [.lit (.bool true)], args := [d] }
  | _ => none }
def fnExactSubstitutionOkRow : OpenClaim := { program := "ytkklcjfpgfgkdaa", sum := "8e6d59637bec6722ba4a0319a3bfbae3b74259761573cb55446dea6fc04f94e2", func := "loop.example/g03201/laws.FnExactSubstitutionOk", spec := "fnExactSubstitutionOk", unfollowed := true, recurses := true, apart := false }
def FnExactSubstitutionOkSaid : Prop := fnExactSubstitutionOkRow.holds Try.pinned (OpenSpec.ofChange fnExactSubstitutionOkSpec)

/-- ITS FALSE NEIGHBOUR: 'it returns false'. Refute it at one input. -/
def fnExactSubstitutionOkWrong : ChangeSpec := { name := "fnExactSubstitutionOk", fn := fun _ => fun
  | [d] => { results := [.lit (.bool false)], args := [d] }
  | _ => none }
def FnExactSubstitutionOkWrongFalsely : Prop := fnExactSubstitutionOkRow.holds Try.pinned (OpenSpec.ofChange fnExactSubstitutionOkWrong)

/-- 'laws.FnExactCountDifferentParts': WHATEVER THE INPUT: true; the input reads as it did. -/
def fnExactCountDifferentPartsSpec : ChangeSpec := { name := "fnExactCountDifferentParts", fn := fun _ => fun
  | [d] => { results := [.lit (.bool true)], args := [d] }
  | _ => none }
def fnExactCountDifferentPartsRow : OpenClaim := { program := "ytkklcjfpgfgkdaa", sum := "8e6d59637bec6722ba4a0319a3bfbae3b74259761573cb55446dea6fc04f94e2", func := "loop.example/g03201/laws.FnExactCountDifferentParts", spec := "fnExactCountDifferentParts", apart := false }
def FnExactCountDifferentPartsSaid : Prop := fnExactCountDifferentPartsRow.holds Try.pinned (OpenSpec.ofChange fnExactCountDifferentPartsSpec)

/-- ITS FALSE NEIGHBOUR: 'it returns false'. Refute it at one input. -/
def fnExactCountDifferentPartsWrong : ChangeSpec := { name := "fnExactCountDifferentParts", fn := fun _ => fun
  | [d] => { results := [.lit (.bool false)], args := [d] }
  | _ => none }
def FnExactCountDifferentPartsWrongFalsely : Prop := fnExactCountDifferentPartsRow.holds Try.pinned (OpenSpec.ofChange fnExactCountDifferentPartsWrong)

/-- 'laws.FnExactMirrorList': WHATEVER THE INPUT: true; the input reads as it did. -/
def fnExactMirrorListSpec : ChangeSpec := { name := "fnExactMirrorList", fn := fun _ => fun
  | [d] => { results := [.lit (.bool true)], args := [d] }
  | _ => none }
def fnExactMirrorListRow : OpenClaim := { program := "ytkklcjfpgfgkdaa", sum := "8e6d59637bec6722ba4a0319a3bfbae3b74259761573cb55446dea6fc04f94e2", func := "loop.example/g03201/laws.FnExactMirrorList", spec := "fnExactMirrorList", apart := false }
def FnExactMirrorListSaid : Prop := fnExactMirrorListRow.holds Try.pinned (OpenSpec.ofChange fnExactMirrorListSpec)

/-- ITS FALSE NEIGHBOUR: 'it returns false'. Refute it at one input. -/
def fnExactMirrorListWrong : ChangeSpec := { name := "fnExactMirrorList", fn := fun _ => fun
  | [d] => { results := [.lit (.bool false)], args := [d] }
  | _ => none }
def FnExactMirrorListWrongFalsely : Prop := fnExactMirrorListRow.holds Try.pinned (OpenSpec.ofChange fnExactMirrorListWrong)

/-- 'laws.FnExactBordersOf': WHATEVER THE INPUT: true; the input reads as it did. -/
def fnExactBordersOfSpec : ChangeSpec := { name := "fnExactBordersOf", fn := fun _ => fun
  | [d] => { results := [.lit (.bool true)], args := [d] }
  | _ => none }
def fnExactBordersOfRow : OpenClaim := { program := "ytkklcjfpgfgkdaa", sum := "8e6d59637bec6722ba4a0319a3bfbae3b74259761573cb55446dea6fc04f94e2", func := "loop.example/g03201/laws.FnExactBordersOf", spec := "fnExactBordersOf", apart := false }
def FnExactBordersOfSaid : Prop := fnExactBordersOfRow.holds Try.pinned (OpenSpec.ofChange fnExactBordersOfSpec)

/-- ITS FALSE NEIGHBOUR: 'it returns false'. Refute it at one input. -/
def fnExactBordersOfWrong : ChangeSpec := { name := "fnExactBordersOf", fn := fun _ => fun
  | [d] => { results := [.lit (.bool false)], args := [d] }
  | _ => none }
def FnExactBordersOfWrongFalsely : Prop := fnExactBordersOfRow.holds Try.pinned (OpenSpec.ofChange fnExactBordersOfWrong)

/-- 'laws.FnExactBorderTable': WHATEVER THE INPUT: true; the input reads as it did. -/
def fnExactBorderTableSpec : ChangeSpec := { name := "fnExactBorderTable", fn := fun _ => fun
  | [d] => { results := [.lit (.bool true)], args := [d] }
  | _ => none }
def fnExactBorderTableRow : OpenClaim := { program := "ytkklcjfpgfgkdaa", sum := "8e6d59637bec6722ba4a0319a3bfbae3b74259761573cb55446dea6fc04f94e2", func := "loop.example/g03201/laws.FnExactBorderTable", spec := "fnExactBorderTable", apart := false }
def FnExactBorderTableSaid : Prop := fnExactBorderTableRow.holds Try.pinned (OpenSpec.ofChange fnExactBorderTableSpec)

/-- ITS FALSE NEIGHBOUR: 'it returns false'. Refute it at one input. -/
def fnExactBorderTableWrong : ChangeSpec := { name := "fnExactBorderTable", fn := fun _ => fun
  | [d] => { results := [.lit (.bool false)], args := [d] }
  | _ => none }
def FnExactBorderTableWrongFalsely : Prop := fnExactBorderTableRow.holds Try.pinned (OpenSpec.ofChange fnExactBorderTableWrong)

/- THE SECOND FORM. 'bulk': how many values and letters a reading holds, each counted each time it is reached (what is shared counts as often as it is met; a slice's spare places count too). A statement '..UptoSaid' is the law's where the arguments, and the package variables that the reading takes, are together of bulk at most 1048576: NARROWER than '..Said'. Prove '..Said' where nothing that the law and all that it calls make is longer than what came in: it says more and counts as full. Else prove '..UptoSaid'. A law counts once. -/
mutual
def uptoBulk {H : Type} : DataW H → Nat
  | .lit (.string bytes) => bytes.length + 1
  | .lit _ => 1
  | .nil => 1
  | .ptr d => uptoBulk d + 1
  | .slice elems spare => uptoBulkAll elems + uptoBulkAll spare + 1
  | .agg parts => uptoBulkAll parts + 1
  | .iface _ d => uptoBulk d + 1
  | .map entries => uptoBulkEntries entries + 1
  | .held _ => 1
def uptoBulkAll {H : Type} : List (DataW H) → Nat
  | [] => 0
  | d :: r => uptoBulk d + uptoBulkAll r
def uptoBulkEntries {H : Type} : List (Lit × DataW H) → Nat
  | [] => 0
  | x :: r => uptoBulkEntry x + uptoBulkEntries r
def uptoBulkEntry {H : Type} : Lit × DataW H → Nat
  | (.string bytes, d) => bytes.length + uptoBulk d + 1
  | (_, d) => uptoBulk d + 1
 end
def uptoSmall : (H : Type) → List (DataW H) → Bool := fun _ ds => decide (uptoBulkAll ds ≤ 1048576)
def OpenSpec.upto (s : _root_.Go.ChangeSpec) : _root_.Go.OpenSpec := { _root_.Go.OpenSpec.ofChange s with cond := some uptoSmall }

/-- 'laws.FnTraces', WHERE WHAT IT READS IS OF BULK AT MOST 1048576: true; the input reads as it did. -/
def fnTracesUptoRow : OpenClaim := { program := "ytkklcjfpgfgkdaa", sum := "8e6d59637bec6722ba4a0319a3bfbae3b74259761573cb55446dea6fc04f94e2", func := "loop.example/g03201/laws.FnTraces", spec := "fnTraces", unfollowed := true, recurses := true, apart := false, narrowed := true }
def FnTracesUptoSaid : Prop := fnTracesUptoRow.holds Try.pinned (OpenSpec.upto fnTracesSpec)

/-- 'laws.FnExactSubstitutionOk', WHERE WHAT IT READS IS OF BULK AT MOST 1048576: true; the input reads as it did. -/
def fnExactSubstitutionOkUptoRow : OpenClaim := { program := "ytkklcjfpgfgkdaa", sum := "8e6d59637bec6722ba4a0319a3bfbae3b74259761573cb55446dea6fc04f94e2", func := "loop.example/g03201/laws.FnExactSubstitutionOk", spec := "fnExactSubstitutionOk", unfollowed := true, recurses := true, apart := false, narrowed := true }
def FnExactSubstitutionOkUptoSaid : Prop := fnExactSubstitutionOkUptoRow.holds Try.pinned (OpenSpec.upto fnExactSubstitutionOkSpec)

/-- 'laws.FnExactCountDifferentParts', WHERE WHAT IT READS IS OF BULK AT MOST 1048576: true; the input reads as it did. -/
def fnExactCountDifferentPartsUptoRow : OpenClaim := { program := "ytkklcjfpgfgkdaa", sum := "8e6d59637bec6722ba4a0319a3bfbae3b74259761573cb55446dea6fc04f94e2", func := "loop.example/g03201/laws.FnExactCountDifferentParts", spec := "fnExactCountDifferentParts", apart := false, narrowed := true }
def FnExactCountDifferentPartsUptoSaid : Prop := fnExactCountDifferentPartsUptoRow.holds Try.pinned (OpenSpec.upto fnExactCountDifferentPartsSpec)

/-- 'laws.FnExactMirrorList', WHERE WHAT IT READS IS OF BULK AT MOST 1048576: true; the input reads as it did. -/
def fnExactMirrorListUptoRow : OpenClaim := { program := "ytkklcjfpgfgkdaa", sum := "8e6d59637bec6722ba4a0319a3bfbae3b74259761573cb55446dea6fc04f94e2", func := "loop.example/g03201/laws.FnExactMirrorList", spec := "fnExactMirrorList", apart := false, narrowed := true }
def FnExactMirrorListUptoSaid : Prop := fnExactMirrorListUptoRow.holds Try.pinned (OpenSpec.upto fnExactMirrorListSpec)

/-- 'laws.FnExactBordersOf', WHERE WHAT IT READS IS OF BULK AT MOST 1048576: true; the input reads as it did. -/
def fnExactBordersOfUptoRow : OpenClaim := { program := "ytkklcjfpgfgkdaa", sum := "8e6d59637bec6722ba4a0319a3bfbae3b74259761573cb55446dea6fc04f94e2", func := "loop.example/g03201/laws.FnExactBordersOf", spec := "fnExactBordersOf", apart := false, narrowed := true }
def FnExactBordersOfUptoSaid : Prop := fnExactBordersOfUptoRow.holds Try.pinned (OpenSpec.upto fnExactBordersOfSpec)

/-- 'laws.FnExactBorderTable', WHERE WHAT IT READS IS OF BULK AT MOST 1048576: true; the input reads as it did. -/
def fnExactBorderTableUptoRow : OpenClaim := { program := "ytkklcjfpgfgkdaa", sum := "8e6d59637bec6722ba4a0319a3bfbae3b74259761573cb55446dea6fc04f94e2", func := "loop.example/g03201/laws.FnExactBorderTable", spec := "fnExactBorderTable", apart := false, narrowed := true }
def FnExactBorderTableUptoSaid : Prop := fnExactBorderTableUptoRow.holds Try.pinned (OpenSpec.upto fnExactBorderTableSpec)

end Rows
end Go.Proofs.Ytkklcjfpgfgkdaa
