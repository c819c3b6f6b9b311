/-
  No cell of these rows narrows 'for every input' (looked for: loops, veiled, ifaces, maps, wideKeys, modest, calm, conditions, laid).
  DERIVED. THE GIVEN ROWS OF THIS SEAT. 6 by the template 'for every input the law returns true; each argument reads behind the call as it read before'; 0 by the template 'total and deterministic' (their statements: YtkklcjfpgfgkdacTotals.lean).
  GIVEN WITH THE SEED: the statements are not yours to turn. If you find one false, say at which input.
  Laid BY PROGRAM, IN A SANDBOX (cutbox-rows.mjs): the forced cells as the released guide's own fill.sh prints them over the translation 44190fff77511a75… (all of the seat's roots in one cut). By AI agents, Wed Nov 11 2026. No macro, syntax, notation, axiom, sorry.
-/
import Derived.Test.YtkklcjfpgfgkdacChecked
import GoSem.Claim
import GoSem.ClaimJoined
import GoSem.ClaimMapViews
import Derived.JoinedTies
import Derived.KernelRfl
namespace Go.Proofs.Ytkklcjfpgfgkdac
/- THE CELL 'sum', in the pinned program and in every row, IS THE sha256 OF THE DUMP (.gsa) THAT YtkklcjfpgfgkdacProg.lean LOADS. Nothing in Lean hashes anything: it is a label: what it is worth is what the hold of that sum in a sandbox is worth. -/
noncomputable def Try.pinned : Pinned := { name := "ytkklcjfpgfgkdac", sum := "44190fff77511a754202ac03d10b356f019c3422d2d0a93584135bd99a408ead", checked := Try.checked }
namespace Rows
def none {H : Type} : Left H := { results := [], args := [] }

/-- 'laws.FnExactIsGrowing': WHATEVER THE INPUT: true; the input reads as it did. -/
def fnExactIsGrowingSpec : ChangeSpec := { name := "fnExactIsGrowing", fn := fun _ => fun
  | [d1, d2] => { results := [.lit (.bool true)], args := [d1, d2] }
  | _ => none }
def fnExactIsGrowingRow : OpenClaim := { program := "ytkklcjfpgfgkdac", sum := "44190fff77511a754202ac03d10b356f019c3422d2d0a93584135bd99a408ead", func := "loop.example/g03201/laws.FnExactIsGrowing", spec := "fnExactIsGrowing", unfollowed := true, recurses := true, apart := false }
def FnExactIsGrowingSaid : Prop := fnExactIsGrowingRow.holds Try.pinned (OpenSpec.ofChange fnExactIsGrowingSpec)

/-- ITS FALSE NEIGHBOUR: 'it returns false'. Refute it at one input. -/
def fnExactIsGrowingWrong : ChangeSpec := { name := "fnExactIsGrowing", fn := fun _ => fun
  | [d1, d2] => { results := [.lit (.bool false)], args := [d1, d2] }
  | _ => none }
def FnExactIsGrowingWrongFalsely : Prop := fnExactIsGrowingRow.holds Try.pinned (OpenSpec.ofChange fnExactIsGrowingWrong)

/-- 'laws.FnPlaces': WHATEVER THE INPUT: true; the input reads as it did. -/
def fnPlacesSpec : ChangeSpec := { name := "fnPlaces", fn := fun _ => fun
  | [d] => { results := [.lit (.bool true)], args := [d] }
  | _ => none }
def fnPlacesRow : OpenClaim := { program := "ytkklcjfpgfgkdac", sum := "44190fff77511a754202ac03d10b356f019c3422d2d0a93584135bd99a408ead", func := "loop.example/g03201/laws.FnPlaces", spec := "fnPlaces", apart := false }
def FnPlacesSaid : Prop := fnPlacesRow.holds Try.pinned (OpenSpec.ofChange fnPlacesSpec)

/-- ITS FALSE NEIGHBOUR: 'it returns false'. Refute it at one input. -/
def fnPlacesWrong : ChangeSpec := { name := "fnPlaces", fn := fun _ => fun
  | [d] => { results := [.lit (.bool false)], args := [d] }
  | _ => none }
def FnPlacesWrongFalsely : Prop := fnPlacesRow.holds Try.pinned (OpenSpec.ofChange fnPlacesWrong)

/-- 'laws.FnExactKraftSum': WHATEVER THE INPUT: true; the input reads as it did. -/
def fnExactKraftSumSpec : ChangeSpec := { name := "fnExactKraftSum", fn := fun _ => fun
  | [d1, d2] => { results := [.lit (.bool true)], args := [d1, d2] }
  | _ => none }
def fnExactKraftSumRow : OpenClaim := { program := "ytkklcjfpgfgkdac", sum := "44190fff77511a754202ac03d10b356f019c3422d2d0a93584135bd99a408ead", func := "loop.example/g03201/laws.FnExactKraftSum", spec := "fnExactKraftSum", apart := false }
def FnExactKraftSumSaid : Prop := fnExactKraftSumRow.holds Try.pinned (OpenSpec.ofChange fnExactKraftSumSpec)

/-- ITS FALSE NEIGHBOUR: 'it returns false'. Refute it at one input. -/
def fnExactKraftSumWrong : ChangeSpec := { name := "fnExactKraftSum", fn := fun _ => fun
  | [d1, d2] => { results := [.lit (.bool false)], args := [d1, d2] }
  | _ => none }
def FnExactKraftSumWrongFalsely : Prop := fnExactKraftSumRow.holds Try.pinned (OpenSpec.ofChange fnExactKraftSumWrong)

/-- 'laws.FnExactAreConjugate': WHATEVER THE INPUT: true; the input reads as it did. -/
def fnExactAreConjugateSpec : ChangeSpec := { name := "fnExactAreConjugate", fn := fun _ => fun
  | [d1, d2] => { results := [.lit (.bool true)], args := [d1, d2] }
  | _ => none }
def fnExactAreConjugateRow : OpenClaim := { program := "ytkklcjfpgfgkdac", sum := "44190fff77511a754202ac03d10b356f019c3422d2d0a93584135bd99a408ead", func := "loop.example/g03201/laws.FnExactAreConjugate", spec := "fnExactAreConjugate", inPlace := ["internal/bytealg.IndexByteString", "internal/bytealg.IndexString"], named := ["internal/bytealg.MaxLen"], apart := false }
def FnExactAreConjugateSaid : Prop := fnExactAreConjugateRow.holds Try.pinned (OpenSpec.ofChange fnExactAreConjugateSpec)

/-- ITS FALSE NEIGHBOUR: 'it returns false'. Refute it at one input. -/
def fnExactAreConjugateWrong : ChangeSpec := { name := "fnExactAreConjugate", fn := fun _ => fun
  | [d1, d2] => { results := [.lit (.bool false)], args := [d1, d2] }
  | _ => none }
def FnExactAreConjugateWrongFalsely : Prop := fnExactAreConjugateRow.holds Try.pinned (OpenSpec.ofChange fnExactAreConjugateWrong)

/-- 'laws.FnExactCountReadings': WHATEVER THE INPUT: true; the input reads as it did. -/
def fnExactCountReadingsSpec : ChangeSpec := { name := "fnExactCountReadings", fn := fun _ => fun
  | [d1, d2] => { results := [.lit (.bool true)], args := [d1, d2] }
  | _ => none }
def fnExactCountReadingsRow : OpenClaim := { program := "ytkklcjfpgfgkdac", sum := "44190fff77511a754202ac03d10b356f019c3422d2d0a93584135bd99a408ead", func := "loop.example/g03201/laws.FnExactCountReadings", spec := "fnExactCountReadings", apart := false }
def FnExactCountReadingsSaid : Prop := fnExactCountReadingsRow.holds Try.pinned (OpenSpec.ofChange fnExactCountReadingsSpec)

/-- ITS FALSE NEIGHBOUR: 'it returns false'. Refute it at one input. -/
def fnExactCountReadingsWrong : ChangeSpec := { name := "fnExactCountReadings", fn := fun _ => fun
  | [d1, d2] => { results := [.lit (.bool false)], args := [d1, d2] }
  | _ => none }
def FnExactCountReadingsWrongFalsely : Prop := fnExactCountReadingsRow.holds Try.pinned (OpenSpec.ofChange fnExactCountReadingsWrong)

/-- 'laws.FnExactCountTrace': WHATEVER THE INPUT: true; the input reads as it did. -/
def fnExactCountTraceSpec : ChangeSpec := { name := "fnExactCountTrace", fn := fun _ => fun
  | [d1, d2, d3] => { results := [.lit (.bool true)], args := [d1, d2, d3] }
  | _ => none }
def fnExactCountTraceRow : OpenClaim := { program := "ytkklcjfpgfgkdac", sum := "44190fff77511a754202ac03d10b356f019c3422d2d0a93584135bd99a408ead", func := "loop.example/g03201/laws.FnExactCountTrace", spec := "fnExactCountTrace", recurses := true, apart := false }
def FnExactCountTraceSaid : Prop := fnExactCountTraceRow.holds Try.pinned (OpenSpec.ofChange fnExactCountTraceSpec)

/-- ITS FALSE NEIGHBOUR: 'it returns false'. Refute it at one input. -/
def fnExactCountTraceWrong : ChangeSpec := { name := "fnExactCountTrace", fn := fun _ => fun
  | [d1, d2, d3] => { results := [.lit (.bool false)], args := [d1, d2, d3] }
  | _ => none }
def FnExactCountTraceWrongFalsely : Prop := fnExactCountTraceRow.holds Try.pinned (OpenSpec.ofChange fnExactCountTraceWrong)

/- THE SECOND FORM. 'bulk': how many values and letters a reading holds, each counted each time it is reached (what is shared counts as often as it is met; a slice's spare places count too). A statement '..UptoSaid' is the law's where the arguments, and the package variables that the reading takes, are together of bulk at most 1048576: NARROWER than '..Said'. Prove '..Said' where nothing that the law and all that it calls make is longer than what came in: it says more and counts as full. Else prove '..UptoSaid'. A law counts once. -/
mutual
def uptoBulk {H : Type} : DataW H → Nat
  | .lit (.string bytes) => bytes.length + 1
  | .lit _ => 1
  | .nil => 1
  | .ptr d => uptoBulk d + 1
  | .slice elems spare => uptoBulkAll elems + uptoBulkAll spare + 1
  | .agg parts => uptoBulkAll parts + 1
  | .iface _ d => uptoBulk d + 1
  | .map entries => uptoBulkEntries entries + 1
  | .held _ => 1
def uptoBulkAll {H : Type} : List (DataW H) → Nat
  | [] => 0
  | d :: r => uptoBulk d + uptoBulkAll r
def uptoBulkEntries {H : Type} : List (Lit × DataW H) → Nat
  | [] => 0
  | x :: r => uptoBulkEntry x + uptoBulkEntries r
def uptoBulkEntry {H : Type} : Lit × DataW H → Nat
  | (.string bytes, d) => bytes.length + uptoBulk d + 1
  | (_, d) => uptoBulk d + 1
 end
def uptoSmall : (H : Type) → List (DataW H) → Bool := fun _ ds => decide (uptoBulkAll ds ≤ 1048576)
def OpenSpec.upto (s : _root_.Go.ChangeSpec) : _root_.Go.OpenSpec := { _root_.Go.OpenSpec.ofChange s with cond := some uptoSmall }

/-- 'laws.FnExactIsGrowing', WHERE WHAT IT READS IS OF BULK AT MOST 1048576: true; the input reads as it did. -/
def fnExactIsGrowingUptoRow : OpenClaim := { program := "ytkklcjfpgfgkdac", sum := "44190fff77511a754202ac03d10b356f019c3422d2d0a93584135bd99a408ead", func := "loop.example/g03201/laws.FnExactIsGrowing", spec := "fnExactIsGrowing", unfollowed := true, recurses := true, apart := false, narrowed := true }
def FnExactIsGrowingUptoSaid : Prop := fnExactIsGrowingUptoRow.holds Try.pinned (OpenSpec.upto fnExactIsGrowingSpec)

/-- 'laws.FnPlaces', WHERE WHAT IT READS IS OF BULK AT MOST 1048576: true; the input reads as it did. -/
def fnPlacesUptoRow : OpenClaim := { program := "ytkklcjfpgfgkdac", sum := "44190fff77511a754202ac03d10b356f019c3422d2d0a93584135bd99a408ead", func := "loop.example/g03201/laws.FnPlaces", spec := "fnPlaces", apart := false, narrowed := true }
def FnPlacesUptoSaid : Prop := fnPlacesUptoRow.holds Try.pinned (OpenSpec.upto fnPlacesSpec)

/-- 'laws.FnExactKraftSum', WHERE WHAT IT READS IS OF BULK AT MOST 1048576: true; the input reads as it did. -/
def fnExactKraftSumUptoRow : OpenClaim := { program := "ytkklcjfpgfgkdac", sum := "44190fff77511a754202ac03d10b356f019c3422d2d0a93584135bd99a408ead", func := "loop.example/g03201/laws.FnExactKraftSum", spec := "fnExactKraftSum", apart := false, narrowed := true }
def FnExactKraftSumUptoSaid : Prop := fnExactKraftSumUptoRow.holds Try.pinned (OpenSpec.upto fnExactKraftSumSpec)

/-- 'laws.FnExactAreConjugate', WHERE WHAT IT READS IS OF BULK AT MOST 1048576: true; the input reads as it did. -/
def fnExactAreConjugateUptoRow : OpenClaim := { program := "ytkklcjfpgfgkdac", sum := "44190fff77511a754202ac03d10b356f019c3422d2d0a93584135bd99a408ead", func := "loop.example/g03201/laws.FnExactAreConjugate", spec := "fnExactAreConjugate", inPlace := ["internal/bytealg.IndexByteString", "internal/bytealg.IndexString"], named := ["internal/bytealg.MaxLen"], apart := false, narrowed := true }
def FnExactAreConjugateUptoSaid : Prop := fnExactAreConjugateUptoRow.holds Try.pinned (OpenSpec.upto fnExactAreConjugateSpec)

/-- 'laws.FnExactCountReadings', WHERE WHAT IT READS IS OF BULK AT MOST 1048576: true; the input reads as it did. -/
def fnExactCountReadingsUptoRow : OpenClaim := { program := "ytkklcjfpgfgkdac", sum := "44190fff77511a754202ac03d10b356f019c3422d2d0a93584135bd99a408ead", func := "loop.example/g03201/laws.FnExactCountReadings", spec := "fnExactCountReadings", apart := false, narrowed := true }
def FnExactCountReadingsUptoSaid : Prop := fnExactCountReadingsUptoRow.holds Try.pinned (OpenSpec.upto fnExactCountReadingsSpec)

/-- 'laws.FnExactCountTrace', WHERE WHAT IT READS IS OF BULK AT MOST 1048576: true; the input reads as it did. -/
def fnExactCountTraceUptoRow : OpenClaim := { program := "ytkklcjfpgfgkdac", sum := "44190fff77511a754202ac03d10b356f019c3422d2d0a93584135bd99a408ead", func := "loop.example/g03201/laws.FnExactCountTrace", spec := "fnExactCountTrace", recurses := true, apart := false, narrowed := true }
def FnExactCountTraceUptoSaid : Prop := fnExactCountTraceUptoRow.holds Try.pinned (OpenSpec.upto fnExactCountTraceSpec)

end Rows
end Go.Proofs.Ytkklcjfpgfgkdac
