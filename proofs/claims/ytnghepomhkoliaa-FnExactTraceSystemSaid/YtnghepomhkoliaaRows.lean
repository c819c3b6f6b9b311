/-
  No cell of these rows narrows 'for every input' (looked for: loops, veiled, ifaces, maps, wideKeys, modest, calm, conditions, laid).
  DERIVED. THE GIVEN ROWS OF THIS SEAT. 6 by the template 'for every input the law returns true; each argument reads behind the call as it read before'; 0 by the template 'total and deterministic' (their statements: YtnghepomhkoliaaTotals.lean).
  GIVEN WITH THE SEED: the statements are not yours to turn. If you find one false, say at which input.
  Laid BY PROGRAM, IN A SANDBOX (cutbox-rows.mjs): the forced cells as the released guide's own fill.sh prints them over the translation b84385f9b3ad754b… (all of the seat's roots in one cut). By AI agents, Wed Nov 11 2026. No macro, syntax, notation, axiom, sorry.
-/
import Derived.Test.YtnghepomhkoliaaChecked
import GoSem.Claim
import GoSem.ClaimJoined
import GoSem.ClaimMapViews
import Derived.JoinedTies
import Derived.KernelRfl
namespace Go.Proofs.Ytnghepomhkoliaa
/- THE CELL 'sum', in the pinned program and in every row, IS THE sha256 OF THE DUMP (.gsa) THAT YtnghepomhkoliaaProg.lean LOADS. Nothing in Lean hashes anything: it is a label: what it is worth is what the hold of that sum in a sandbox is worth. -/
noncomputable def Try.pinned : Pinned := { name := "ytnghepomhkoliaa", sum := "b84385f9b3ad754b1e90cc9cd1ae794419c38e9c160267a5f2d8a401dcc89d3e", checked := Try.checked }
namespace Rows
def none {H : Type} : Left H := { results := [], args := [] }

/-- 'laws.FnExactComposeSubstitutions': WHATEVER THE INPUT: true; the input reads as it did. -/
def fnExactComposeSubstitutionsSpec : ChangeSpec := { name := "fnExactComposeSubstitutions", fn := fun _ => fun
  | [d1, d2] => { results := [.lit (.bool true)], args := [d1, d2] }
  | _ => none }
def fnExactComposeSubstitutionsRow : OpenClaim := { program := "ytnghepomhkoliaa", sum := "b84385f9b3ad754b1e90cc9cd1ae794419c38e9c160267a5f2d8a401dcc89d3e", func := "loop.example/g03201/laws.FnExactComposeSubstitutions", spec := "fnExactComposeSubstitutions", inPlace := ["internal/abi.NoEscape"], unfollowed := true, recurses := true, apart := false }
def FnExactComposeSubstitutionsSaid : Prop := fnExactComposeSubstitutionsRow.holds Try.pinned (OpenSpec.ofChange fnExactComposeSubstitutionsSpec)

/-- ITS FALSE NEIGHBOUR: 'it returns false'. Refute it at one input. -/
def fnExactComposeSubstitutionsWrong : ChangeSpec := { name := "fnExactComposeSubstitutions", fn := fun _ => fun
  | [d1, d2] => { results := [.lit (.bool false)], args := [d1, d2] }
  | _ => none }
def FnExactComposeSubstitutionsWrongFalsely : Prop := fnExactComposeSubstitutionsRow.holds Try.pinned (OpenSpec.ofChange fnExactComposeSubstitutionsWrong)

/-- 'laws.FnExactPrefixOf': WHATEVER THE INPUT: true; the input reads as it did. -/
def fnExactPrefixOfSpec : ChangeSpec := { name := "fnExactPrefixOf", fn := fun _ => fun
  | [d1, d2, d3] => { results := [.lit (.bool true)], args := [d1, d2, d3] }
  | _ => none }
def fnExactPrefixOfRow : OpenClaim := { program := "ytnghepomhkoliaa", sum := "b84385f9b3ad754b1e90cc9cd1ae794419c38e9c160267a5f2d8a401dcc89d3e", func := "loop.example/g03201/laws.FnExactPrefixOf", spec := "fnExactPrefixOf", inPlace := ["internal/abi.NoEscape"], unfollowed := true, recurses := true, apart := false }
def FnExactPrefixOfSaid : Prop := fnExactPrefixOfRow.holds Try.pinned (OpenSpec.ofChange fnExactPrefixOfSpec)

/-- ITS FALSE NEIGHBOUR: 'it returns false'. Refute it at one input. -/
def fnExactPrefixOfWrong : ChangeSpec := { name := "fnExactPrefixOf", fn := fun _ => fun
  | [d1, d2, d3] => { results := [.lit (.bool false)], args := [d1, d2, d3] }
  | _ => none }
def FnExactPrefixOfWrongFalsely : Prop := fnExactPrefixOfRow.holds Try.pinned (OpenSpec.ofChange fnExactPrefixOfWrong)

/-- 'laws.FnExactFormatSubstitution': WHATEVER THE INPUT: true; the input reads as it did. -/
def fnExactFormatSubstitutionSpec : ChangeSpec := { name := "fnExactFormatSubstitution", fn := fun _ => fun
  | [d] => { results := [.lit (.bool true)], args := [d] }
  | _ => none }
def fnExactFormatSubstitutionRow : OpenClaim := { program := "ytnghepomhkoliaa", sum := "b84385f9b3ad754b1e90cc9cd1ae794419c38e9c160267a5f2d8a401dcc89d3e", func := "loop.example/g03201/laws.FnExactFormatSubstitution", spec := "fnExactFormatSubstitution", inPlace := ["internal/abi.NoEscape", "internal/bytealg.MakeNoZero"], unfollowed := true, recurses := true, apart := false }
def FnExactFormatSubstitutionSaid : Prop := fnExactFormatSubstitutionRow.holds Try.pinned (OpenSpec.ofChange fnExactFormatSubstitutionSpec)

/-- ITS FALSE NEIGHBOUR: 'it returns false'. Refute it at one input. -/
def fnExactFormatSubstitutionWrong : ChangeSpec := { name := "fnExactFormatSubstitution", fn := fun _ => fun
  | [d] => { results := [.lit (.bool false)], args := [d] }
  | _ => none }
def FnExactFormatSubstitutionWrongFalsely : Prop := fnExactFormatSubstitutionRow.holds Try.pinned (OpenSpec.ofChange fnExactFormatSubstitutionWrong)

/-- 'laws.FnExactTraceSystem': WHATEVER THE INPUT: true; the input reads as it did. -/
def fnExactTraceSystemSpec : ChangeSpec := { name := "fnExactTraceSystem", fn := fun _ => fun
  | [d1, d2] => { results := [.lit (.bool true)], args := [d1, d2] }
  | _ => none }
def fnExactTraceSystemRow : OpenClaim := { program := "ytnghepomhkoliaa", sum := "b84385f9b3ad754b1e90cc9cd1ae794419c38e9c160267a5f2d8a401dcc89d3e", func := "loop.example/g03201/laws.FnExactTraceSystem", spec := "fnExactTraceSystem", apart := false }
def FnExactTraceSystemSaid : Prop := fnExactTraceSystemRow.holds Try.pinned (OpenSpec.ofChange fnExactTraceSystemSpec)

/-- ITS FALSE NEIGHBOUR: 'it returns false'. Refute it at one input. -/
def fnExactTraceSystemWrong : ChangeSpec := { name := "fnExactTraceSystem", fn := fun _ => fun
  | [d1, d2] => { results := [.lit (.bool false)], args := [d1, d2] }
  | _ => none }
def FnExactTraceSystemWrongFalsely : Prop := fnExactTraceSystemRow.holds Try.pinned (OpenSpec.ofChange fnExactTraceSystemWrong)

/-- 'laws.FnExactIsPrimitive': WHATEVER THE INPUT: true; the input reads as it did. -/
def fnExactIsPrimitiveSpec : ChangeSpec := { name := "fnExactIsPrimitive", fn := fun _ => fun
  | [d] => { results := [.lit (.bool true)], args := [d] }
  | _ => none }
def fnExactIsPrimitiveRow : OpenClaim := { program := "ytnghepomhkoliaa", sum := "b84385f9b3ad754b1e90cc9cd1ae794419c38e9c160267a5f2d8a401dcc89d3e", func := "loop.example/g03201/laws.FnExactIsPrimitive", spec := "fnExactIsPrimitive", inPlace := ["internal/abi.NoEscape", "internal/bytealg.MakeNoZero"], apart := false }
def FnExactIsPrimitiveSaid : Prop := fnExactIsPrimitiveRow.holds Try.pinned (OpenSpec.ofChange fnExactIsPrimitiveSpec)

/-- ITS FALSE NEIGHBOUR: 'it returns false'. Refute it at one input. -/
def fnExactIsPrimitiveWrong : ChangeSpec := { name := "fnExactIsPrimitive", fn := fun _ => fun
  | [d] => { results := [.lit (.bool false)], args := [d] }
  | _ => none }
def FnExactIsPrimitiveWrongFalsely : Prop := fnExactIsPrimitiveRow.holds Try.pinned (OpenSpec.ofChange fnExactIsPrimitiveWrong)

/-- 'laws.FnExactReadingOf': WHATEVER THE INPUT: true; the input reads as it did. -/
def fnExactReadingOfSpec : ChangeSpec := { name := "fnExactReadingOf", fn := fun _ => fun
  | [d1, d2] => { results := [.lit (.bool true)], args := [d1, d2] }
  | _ => none }
def fnExactReadingOfRow : OpenClaim := { program := "ytnghepomhkoliaa", sum := "b84385f9b3ad754b1e90cc9cd1ae794419c38e9c160267a5f2d8a401dcc89d3e", func := "loop.example/g03201/laws.FnExactReadingOf", spec := "fnExactReadingOf", unfollowed := true, recurses := true, apart := false }
def FnExactReadingOfSaid : Prop := fnExactReadingOfRow.holds Try.pinned (OpenSpec.ofChange fnExactReadingOfSpec)

/-- ITS FALSE NEIGHBOUR: 'it returns false'. Refute it at one input. -/
def fnExactReadingOfWrong : ChangeSpec := { name := "fnExactReadingOf", fn := fun _ => fun
  | [d1, d2] => { results := [.lit (.bool false)], args := [d1, d2] }
  | _ => none }
def FnExactReadingOfWrongFalsely : Prop := fnExactReadingOfRow.holds Try.pinned (OpenSpec.ofChange fnExactReadingOfWrong)

/- THE SECOND FORM. 'bulk': how many values and letters a reading holds, each counted each time it is reached (what is shared counts as often as it is met; a slice's spare places count too). A statement '..UptoSaid' is the law's where the arguments, and the package variables that the reading takes, are together of bulk at most 1048576: NARROWER than '..Said'. Prove '..Said' where nothing that the law and all that it calls make is longer than what came in: it says more and counts as full. Else prove '..UptoSaid'. A law counts once. -/
mutual
def uptoBulk {H : Type} : DataW H → Nat
  | .lit (.string bytes) => bytes.length + 1
  | .lit _ => 1
  | .nil => 1
  | .ptr d => uptoBulk d + 1
  | .slice elems spare => uptoBulkAll elems + uptoBulkAll spare + 1
  | .agg parts => uptoBulkAll parts + 1
  | .iface _ d => uptoBulk d + 1
  | .map entries => uptoBulkEntries entries + 1
  | .held _ => 1
def uptoBulkAll {H : Type} : List (DataW H) → Nat
  | [] => 0
  | d :: r => uptoBulk d + uptoBulkAll r
def uptoBulkEntries {H : Type} : List (Lit × DataW H) → Nat
  | [] => 0
  | x :: r => uptoBulkEntry x + uptoBulkEntries r
def uptoBulkEntry {H : Type} : Lit × DataW H → Nat
  | (.string bytes, d) => bytes.length + uptoBulk d + 1
  | (_, d) => uptoBulk d + 1
 end
def uptoSmall : (H : Type) → List (DataW H) → Bool := fun _ ds => decide (uptoBulkAll ds ≤ 1048576)
def OpenSpec.upto (s : _root_.Go.ChangeSpec) : _root_.Go.OpenSpec := { _root_.Go.OpenSpec.ofChange s with cond := some uptoSmall }

/-- 'laws.FnExactComposeSubstitutions', WHERE WHAT IT READS IS OF BULK AT MOST 1048576: true; the input reads as it did. -/
def fnExactComposeSubstitutionsUptoRow : OpenClaim := { program := "ytnghepomhkoliaa", sum := "b84385f9b3ad754b1e90cc9cd1ae794419c38e9c160267a5f2d8a401dcc89d3e", func := "loop.example/g03201/laws.FnExactComposeSubstitutions", spec := "fnExactComposeSubstitutions", inPlace := ["internal/abi.NoEscape"], unfollowed := true, recurses := true, apart := false, narrowed := true }
def FnExactComposeSubstitutionsUptoSaid : Prop := fnExactComposeSubstitutionsUptoRow.holds Try.pinned (OpenSpec.upto fnExactComposeSubstitutionsSpec)

/-- 'laws.FnExactPrefixOf', WHERE WHAT IT READS IS OF BULK AT MOST 1048576: true; the input reads as it did. -/
def fnExactPrefixOfUptoRow : OpenClaim := { program := "ytnghepomhkoliaa", sum := "b84385f9b3ad754b1e90cc9cd1ae794419c38e9c160267a5f2d8a401dcc89d3e", func := "loop.example/g03201/laws.FnExactPrefixOf", spec := "fnExactPrefixOf", inPlace := ["internal/abi.NoEscape"], unfollowed := true, recurses := true, apart := false, narrowed := true }
def FnExactPrefixOfUptoSaid : Prop := fnExactPrefixOfUptoRow.holds Try.pinned (OpenSpec.upto fnExactPrefixOfSpec)

/-- 'laws.FnExactFormatSubstitution', WHERE WHAT IT READS IS OF BULK AT MOST 1048576: true; the input reads as it did. -/
def fnExactFormatSubstitutionUptoRow : OpenClaim := { program := "ytnghepomhkoliaa", sum := "b84385f9b3ad754b1e90cc9cd1ae794419c38e9c160267a5f2d8a401dcc89d3e", func := "loop.example/g03201/laws.FnExactFormatSubstitution", spec := "fnExactFormatSubstitution", inPlace := ["internal/abi.NoEscape", "internal/bytealg.MakeNoZero"], unfollowed := true, recurses := true, apart := false, narrowed := true }
def FnExactFormatSubstitutionUptoSaid : Prop := fnExactFormatSubstitutionUptoRow.holds Try.pinned (OpenSpec.upto fnExactFormatSubstitutionSpec)

/-- 'laws.FnExactTraceSystem', WHERE WHAT IT READS IS OF BULK AT MOST 1048576: true; the input reads as it did. -/
def fnExactTraceSystemUptoRow : OpenClaim := { program := "ytnghepomhkoliaa", sum := "b84385f9b3ad754b1e90cc9cd1ae794419c38e9c160267a5f2d8a401dcc89d3e", func := "loop.example/g03201/laws.FnExactTraceSystem", spec := "fnExactTraceSystem", apart := false, narrowed := true }
def FnExactTraceSystemUptoSaid : Prop := fnExactTraceSystemUptoRow.holds Try.pinned (OpenSpec.upto fnExactTraceSystemSpec)

/-- 'laws.FnExactIsPrimitive', WHERE WHAT IT READS IS OF BULK AT MOST 1048576: true; the input reads as it did. -/
def fnExactIsPrimitiveUptoRow : OpenClaim := { program := "ytnghepomhkoliaa", sum := "b84385f9b3ad754b1e90cc9cd1ae794419c38e9c160267a5f2d8a401dcc89d3e", func := "loop.example/g03201/laws.FnExactIsPrimitive", spec := "fnExactIsPrimitive", inPlace := ["internal/abi.NoEscape", "internal/bytealg.MakeNoZero"], apart := false, narrowed := true }
def FnExactIsPrimitiveUptoSaid : Prop := fnExactIsPrimitiveUptoRow.holds Try.pinned (OpenSpec.upto fnExactIsPrimitiveSpec)

/-- 'laws.FnExactReadingOf', WHERE WHAT IT READS IS OF BULK AT MOST 1048576: true; the input reads as it did. -/
def fnExactReadingOfUptoRow : OpenClaim := { program := "ytnghepomhkoliaa", sum := "b84385f9b3ad754b1e90cc9cd1ae794419c38e9c160267a5f2d8a401dcc89d3e", func := "loop.example/g03201/laws.FnExactReadingOf", spec := "fnExactReadingOf", unfollowed := true, recurses := true, apart := false, narrowed := true }
def FnExactReadingOfUptoSaid : Prop := fnExactReadingOfUptoRow.holds Try.pinned (OpenSpec.upto fnExactReadingOfSpec)

end Rows
end Go.Proofs.Ytnghepomhkoliaa
