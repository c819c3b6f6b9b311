/-
  No cell of these rows narrows 'for every input' (looked for: loops, veiled, ifaces, maps, wideKeys, modest, calm, conditions, laid).
  DERIVED. THE GIVEN ROWS OF THIS SEAT. 6 by the template 'for every input the law returns true; each argument reads behind the call as it read before'; 0 by the template 'total and deterministic' (their statements: YtonfncakpdoglaaTotals.lean).
  GIVEN WITH THE SEED: the statements are not yours to turn. If you find one false, say at which input.
  Laid BY PROGRAM, IN A SANDBOX (cutbox-rows.mjs): the forced cells as the released guide's own fill.sh prints them over the translation cb07dabcf8ec06d8… (all of the seat's roots in one cut). By AI agents, Wed Nov 11 2026. No macro, syntax, notation, axiom, sorry.
-/
import Derived.Test.YtonfncakpdoglaaChecked
import GoSem.Claim
import GoSem.ClaimJoined
import GoSem.ClaimMapViews
import Derived.JoinedTies
import Derived.KernelRfl
namespace Go.Proofs.Ytonfncakpdoglaa
/- THE CELL 'sum', in the pinned program and in every row, IS THE sha256 OF THE DUMP (.gsa) THAT YtonfncakpdoglaaProg.lean LOADS. Nothing in Lean hashes anything: it is a label: what it is worth is what the hold of that sum in a sandbox is worth. -/
noncomputable def Try.pinned : Pinned := { name := "ytonfncakpdoglaa", sum := "cb07dabcf8ec06d8f803b4a449b79e77051501cdad306fc389905544c3b9f34b", checked := Try.checked }
namespace Rows
def none {H : Type} : Left H := { results := [], args := [] }

/-- 'laws.FnExactInverseLetter': WHATEVER THE INPUT: true; the input reads as it did. -/
def fnExactInverseLetterSpec : ChangeSpec := { name := "fnExactInverseLetter", fn := fun _ => fun
  | [d1, d2] => { results := [.lit (.bool true)], args := [d1, d2] }
  | _ => none }
def fnExactInverseLetterRow : OpenClaim := { program := "ytonfncakpdoglaa", sum := "cb07dabcf8ec06d8f803b4a449b79e77051501cdad306fc389905544c3b9f34b", func := "loop.example/g03201/laws.FnExactInverseLetter", spec := "fnExactInverseLetter", apart := false }
def FnExactInverseLetterSaid : Prop := fnExactInverseLetterRow.holds Try.pinned (OpenSpec.ofChange fnExactInverseLetterSpec)

/-- ITS FALSE NEIGHBOUR: 'it returns false'. Refute it at one input. -/
def fnExactInverseLetterWrong : ChangeSpec := { name := "fnExactInverseLetter", fn := fun _ => fun
  | [d1, d2] => { results := [.lit (.bool false)], args := [d1, d2] }
  | _ => none }
def FnExactInverseLetterWrongFalsely : Prop := fnExactInverseLetterRow.holds Try.pinned (OpenSpec.ofChange fnExactInverseLetterWrong)

/-- 'laws.FnExactKeepLetters': WHATEVER THE INPUT: true; the input reads as it did. -/
def fnExactKeepLettersSpec : ChangeSpec := { name := "fnExactKeepLetters", fn := fun _ => fun
  | [d1, d2, d3] => { results := [.lit (.bool true)], args := [d1, d2, d3] }
  | _ => none }
def fnExactKeepLettersRow : OpenClaim := { program := "ytonfncakpdoglaa", sum := "cb07dabcf8ec06d8f803b4a449b79e77051501cdad306fc389905544c3b9f34b", func := "loop.example/g03201/laws.FnExactKeepLetters", spec := "fnExactKeepLetters", apart := false }
def FnExactKeepLettersSaid : Prop := fnExactKeepLettersRow.holds Try.pinned (OpenSpec.ofChange fnExactKeepLettersSpec)

/-- ITS FALSE NEIGHBOUR: 'it returns false'. Refute it at one input. -/
def fnExactKeepLettersWrong : ChangeSpec := { name := "fnExactKeepLetters", fn := fun _ => fun
  | [d1, d2, d3] => { results := [.lit (.bool false)], args := [d1, d2, d3] }
  | _ => none }
def FnExactKeepLettersWrongFalsely : Prop := fnExactKeepLettersRow.holds Try.pinned (OpenSpec.ofChange fnExactKeepLettersWrong)

/-- 'laws.FnExactLongOk': WHATEVER THE INPUT: true; the input reads as it did. -/
def fnExactLongOkSpec : ChangeSpec := { name := "fnExactLongOk", fn := fun _ => fun
  | [d1, d2] => { results := [.lit (.bool true)], args := [d1, d2] }
  | _ => none }
def fnExactLongOkRow : OpenClaim := { program := "ytonfncakpdoglaa", sum := "cb07dabcf8ec06d8f803b4a449b79e77051501cdad306fc389905544c3b9f34b", func := "loop.example/g03201/laws.FnExactLongOk", spec := "fnExactLongOk", apart := false }
def FnExactLongOkSaid : Prop := fnExactLongOkRow.holds Try.pinned (OpenSpec.ofChange fnExactLongOkSpec)

/-- ITS FALSE NEIGHBOUR: 'it returns false'. Refute it at one input. -/
def fnExactLongOkWrong : ChangeSpec := { name := "fnExactLongOk", fn := fun _ => fun
  | [d1, d2] => { results := [.lit (.bool false)], args := [d1, d2] }
  | _ => none }
def FnExactLongOkWrongFalsely : Prop := fnExactLongOkRow.holds Try.pinned (OpenSpec.ofChange fnExactLongOkWrong)

/-- 'laws.FnExactDoCommute': WHATEVER THE INPUT: true; the input reads as it did. -/
def fnExactDoCommuteSpec : ChangeSpec := { name := "fnExactDoCommute", fn := fun _ => fun
  | [d1, d2] => { results := [.lit (.bool true)], args := [d1, d2] }
  | _ => none }
def fnExactDoCommuteRow : OpenClaim := { program := "ytonfncakpdoglaa", sum := "cb07dabcf8ec06d8f803b4a449b79e77051501cdad306fc389905544c3b9f34b", func := "loop.example/g03201/laws.FnExactDoCommute", spec := "fnExactDoCommute", apart := false }
def FnExactDoCommuteSaid : Prop := fnExactDoCommuteRow.holds Try.pinned (OpenSpec.ofChange fnExactDoCommuteSpec)

/-- ITS FALSE NEIGHBOUR: 'it returns false'. Refute it at one input. -/
def fnExactDoCommuteWrong : ChangeSpec := { name := "fnExactDoCommute", fn := fun _ => fun
  | [d1, d2] => { results := [.lit (.bool false)], args := [d1, d2] }
  | _ => none }
def FnExactDoCommuteWrongFalsely : Prop := fnExactDoCommuteRow.holds Try.pinned (OpenSpec.ofChange fnExactDoCommuteWrong)

/-- 'laws.FnExactGreatestPower': WHATEVER THE INPUT: true; the input reads as it did. -/
def fnExactGreatestPowerSpec : ChangeSpec := { name := "fnExactGreatestPower", fn := fun _ => fun
  | [d] => { results := [.lit (.bool true)], args := [d] }
  | _ => none }
def fnExactGreatestPowerRow : OpenClaim := { program := "ytonfncakpdoglaa", sum := "cb07dabcf8ec06d8f803b4a449b79e77051501cdad306fc389905544c3b9f34b", func := "loop.example/g03201/laws.FnExactGreatestPower", spec := "fnExactGreatestPower", apart := false }
def FnExactGreatestPowerSaid : Prop := fnExactGreatestPowerRow.holds Try.pinned (OpenSpec.ofChange fnExactGreatestPowerSpec)

/-- ITS FALSE NEIGHBOUR: 'it returns false'. Refute it at one input. -/
def fnExactGreatestPowerWrong : ChangeSpec := { name := "fnExactGreatestPower", fn := fun _ => fun
  | [d] => { results := [.lit (.bool false)], args := [d] }
  | _ => none }
def FnExactGreatestPowerWrongFalsely : Prop := fnExactGreatestPowerRow.holds Try.pinned (OpenSpec.ofChange fnExactGreatestPowerWrong)

/-- 'laws.FnExactFirstOverlap': WHATEVER THE INPUT: true; the input reads as it did. -/
def fnExactFirstOverlapSpec : ChangeSpec := { name := "fnExactFirstOverlap", fn := fun _ => fun
  | [d] => { results := [.lit (.bool true)], args := [d] }
  | _ => none }
def fnExactFirstOverlapRow : OpenClaim := { program := "ytonfncakpdoglaa", sum := "cb07dabcf8ec06d8f803b4a449b79e77051501cdad306fc389905544c3b9f34b", func := "loop.example/g03201/laws.FnExactFirstOverlap", spec := "fnExactFirstOverlap", unfollowed := true, recurses := true, apart := false }
def FnExactFirstOverlapSaid : Prop := fnExactFirstOverlapRow.holds Try.pinned (OpenSpec.ofChange fnExactFirstOverlapSpec)

/-- ITS FALSE NEIGHBOUR: 'it returns false'. Refute it at one input. -/
def fnExactFirstOverlapWrong : ChangeSpec := { name := "fnExactFirstOverlap", fn := fun _ => fun
  | [d] => { results := [.lit (.bool false)], args := [d] }
  | _ => none }
def FnExactFirstOverlapWrongFalsely : Prop := fnExactFirstOverlapRow.holds Try.pinned (OpenSpec.ofChange fnExactFirstOverlapWrong)

/- THE SECOND FORM. 'bulk': how many values and letters a reading holds, each counted each time it is reached (what is shared counts as often as it is met; a slice's spare places count too). A statement '..UptoSaid' is the law's where the arguments, and the package variables that the reading takes, are together of bulk at most 1048576: NARROWER than '..Said'. Prove '..Said' where nothing that the law and all that it calls make is longer than what came in: it says more and counts as full. Else prove '..UptoSaid'. A law counts once. -/
mutual
def uptoBulk {H : Type} : DataW H → Nat
  | .lit (.string bytes) => bytes.length + 1
  | .lit _ => 1
  | .nil => 1
  | .ptr d => uptoBulk d + 1
  | .slice elems spare => uptoBulkAll elems + uptoBulkAll spare + 1
  | .agg parts => uptoBulkAll parts + 1
  | .iface _ d => uptoBulk d + 1
  | .map entries => uptoBulkEntries entries + 1
  | .held _ => 1
def uptoBulkAll {H : Type} : List (DataW H) → Nat
  | [] => 0
  | d :: r => uptoBulk d + uptoBulkAll r
def uptoBulkEntries {H : Type} : List (Lit × DataW H) → Nat
  | [] => 0
  | x :: r => uptoBulkEntry x + uptoBulkEntries r
def uptoBulkEntry {H : Type} : Lit × DataW H → Nat
  | (.string bytes, d) => bytes.length + uptoBulk d + 1
  | (_, d) => uptoBulk d + 1
 end
def uptoSmall : (H : Type) → List (DataW H) → Bool := fun _ ds => decide (uptoBulkAll ds ≤ 1048576)
def OpenSpec.upto (s : _root_.Go.ChangeSpec) : _root_.Go.OpenSpec := { _root_.Go.OpenSpec.ofChange s with cond := some uptoSmall }

/-- 'laws.FnExactInverseLetter', WHERE WHAT IT READS IS OF BULK AT MOST 1048576: true; the input reads as it did. -/
def fnExactInverseLetterUptoRow : OpenClaim := { program := "ytonfncakpdoglaa", sum := "cb07dabcf8ec06d8f803b4a449b79e77051501cdad306fc389905544c3b9f34b", func := "loop.example/g03201/laws.FnExactInverseLetter", spec := "fnExactInverseLetter", apart := false, narrowed := true }
def FnExactInverseLetterUptoSaid : Prop := fnExactInverseLetterUptoRow.holds Try.pinned (OpenSpec.upto fnExactInverseLetterSpec)

/-- 'laws.FnExactKeepLetters', WHERE WHAT IT READS IS OF BULK AT MOST 1048576: true; the input reads as it did. -/
def fnExactKeepLettersUptoRow : OpenClaim := { program := "ytonfncakpdoglaa", sum := "cb07dabcf8ec06d8f803b4a449b79e77051501cdad306fc389905544c3b9f34b", func := "loop.example/g03201/laws.FnExactKeepLetters", spec := "fnExactKeepLetters", apart := false, narrowed := true }
def FnExactKeepLettersUptoSaid : Prop := fnExactKeepLettersUptoRow.holds Try.pinned (OpenSpec.upto fnExactKeepLettersSpec)

/-- 'laws.FnExactLongOk', WHERE WHAT IT READS IS OF BULK AT MOST 1048576: true; the input reads as it did. -/
def fnExactLongOkUptoRow : OpenClaim := { program := "ytonfncakpdoglaa", sum := "cb07dabcf8ec06d8f803b4a449b79e77051501cdad306fc389905544c3b9f34b", func := "loop.example/g03201/laws.FnExactLongOk", spec := "fnExactLongOk", apart := false, narrowed := true }
def FnExactLongOkUptoSaid : Prop := fnExactLongOkUptoRow.holds Try.pinned (OpenSpec.upto fnExactLongOkSpec)

/-- 'laws.FnExactDoCommute', WHERE WHAT IT READS IS OF BULK AT MOST 1048576: true; the input reads as it did. -/
def fnExactDoCommuteUptoRow : OpenClaim := { program := "ytonfncakpdoglaa", sum := "cb07dabcf8ec06d8f803b4a449b79e77051501cdad306fc389905544c3b9f34b", func := "loop.example/g03201/laws.FnExactDoCommute", spec := "fnExactDoCommute", apart := false, narrowed := true }
def FnExactDoCommuteUptoSaid : Prop := fnExactDoCommuteUptoRow.holds Try.pinned (OpenSpec.upto fnExactDoCommuteSpec)

/-- 'laws.FnExactGreatestPower', WHERE WHAT IT READS IS OF BULK AT MOST 1048576: true; the input reads as it did. -/
def fnExactGreatestPowerUptoRow : OpenClaim := { program := "ytonfncakpdoglaa", sum := "cb07dabcf8ec06d8f803b4a449b79e77051501cdad306fc389905544c3b9f34b", func := "loop.example/g03201/laws.FnExactGreatestPower", spec := "fnExactGreatestPower", apart := false, narrowed := true }
def FnExactGreatestPowerUptoSaid : Prop := fnExactGreatestPowerUptoRow.holds Try.pinned (OpenSpec.upto fnExactGreatestPowerSpec)

/-- 'laws.FnExactFirstOverlap', WHERE WHAT IT READS IS OF BULK AT MOST 1048576: true; the input reads as it did. -/
def fnExactFirstOverlapUptoRow : OpenClaim := { program := "ytonfncakpdoglaa", sum := "cb07dabcf8ec06d8f803b4a449b79e77051501cdad306fc389905544c3b9f34b", func := "loop.example/g03201/laws.FnExactFirstOverlap", spec := "fnExactFirstOverlap", unfollowed := true, recurses := true, apart := false, narrowed := true }
def FnExactFirstOverlapUptoSaid : Prop := fnExactFirstOverlapUptoRow.holds Try.pinned (OpenSpec.upto fnExactFirstOverlapSpec)

end Rows
end Go.Proofs.Ytonfncakpdoglaa
