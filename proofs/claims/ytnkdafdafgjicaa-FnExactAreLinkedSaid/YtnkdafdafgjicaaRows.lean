/-
  No cell of these rows narrows 'for every input' (looked for: loops, veiled, ifaces, maps, wideKeys, modest, calm, conditions, laid).
  DERIVED. THE GIVEN ROWS OF THIS SEAT. 6 by the template 'for every input the law returns true; each argument reads behind the call as it read before'; 0 by the template 'total and deterministic' (their statements: YtnkdafdafgjicaaTotals.lean).
  GIVEN WITH THE SEED: the statements are not yours to turn. If you find one false, say at which input.
  Laid BY PROGRAM, IN A SANDBOX (cutbox-rows.mjs): the forced cells as the released guide's own fill.sh prints them over the translation 9ae5b0c1d20dc1df… (all of the seat's roots in one cut). By AI agents, Wed Nov 11 2026. No macro, syntax, notation, axiom, sorry.
-/
import Derived.Test.YtnkdafdafgjicaaChecked
import GoSem.Claim
import GoSem.ClaimJoined
import GoSem.ClaimMapViews
import Derived.JoinedTies
import Derived.KernelRfl
namespace Go.Proofs.Ytnkdafdafgjicaa
/- THE CELL 'sum', in the pinned program and in every row, IS THE sha256 OF THE DUMP (.gsa) THAT YtnkdafdafgjicaaProg.lean LOADS. Nothing in Lean hashes anything: it is a label: what it is worth is what the hold of that sum in a sandbox is worth. -/
noncomputable def Try.pinned : Pinned := { name := "ytnkdafdafgjicaa", sum := "9ae5b0c1d20dc1dffa0e842c03a92797ff75556f2c7a26cfae1e7c0fccdfe5fb", checked := Try.checked }
namespace Rows
def none {H : Type} : Left H := { results := [], args := [] }

/-- 'laws.FnExactNearestTo': WHATEVER THE INPUT: true; the input reads as it did. -/
def fnExactNearestToSpec : ChangeSpec := { name := "fnExactNearestTo", fn := fun _ => fun
  | [d1, d2, d3] => { results := [.lit (.bool true)], args := [d1, d2, d3] }
  | _ => none }
def fnExactNearestToRow : OpenClaim := { program := "ytnkdafdafgjicaa", sum := "9ae5b0c1d20dc1dffa0e842c03a92797ff75556f2c7a26cfae1e7c0fccdfe5fb", func := "loop.example/g00991/laws.FnExactNearestTo", spec := "fnExactNearestTo", unfollowed := true, recurses := true, apart := false }
def FnExactNearestToSaid : Prop := fnExactNearestToRow.holds Try.pinned (OpenSpec.ofChange fnExactNearestToSpec)

/-- ITS FALSE NEIGHBOUR: 'it returns false'. Refute it at one input. -/
def fnExactNearestToWrong : ChangeSpec := { name := "fnExactNearestTo", fn := fun _ => fun
  | [d1, d2, d3] => { results := [.lit (.bool false)], args := [d1, d2, d3] }
  | _ => none }
def FnExactNearestToWrongFalsely : Prop := fnExactNearestToRow.holds Try.pinned (OpenSpec.ofChange fnExactNearestToWrong)

/-- 'laws.FnExactAreLinked': WHATEVER THE INPUT: true; the input reads as it did. -/
def fnExactAreLinkedSpec : ChangeSpec := { name := "fnExactAreLinked", fn := fun _ => fun
  | [d1, d2] => { results := [.lit (.bool true)], args := [d1, d2] }
  | _ => none }
def fnExactAreLinkedRow : OpenClaim := { program := "ytnkdafdafgjicaa", sum := "9ae5b0c1d20dc1dffa0e842c03a92797ff75556f2c7a26cfae1e7c0fccdfe5fb", func := "loop.example/g00991/laws.FnExactAreLinked", spec := "fnExactAreLinked", unfollowed := true, recurses := true, apart := false }
def FnExactAreLinkedSaid : Prop := fnExactAreLinkedRow.holds Try.pinned (OpenSpec.ofChange fnExactAreLinkedSpec)

/-- ITS FALSE NEIGHBOUR: 'it returns false'. Refute it at one input. -/
def fnExactAreLinkedWrong : ChangeSpec := { name := "fnExactAreLinked", fn := fun _ => fun
  | [d1, d2] => { results := [.lit (.bool false)], args := [d1, d2] }
  | _ => none }
def FnExactAreLinkedWrongFalsely : Prop := fnExactAreLinkedRow.holds Try.pinned (OpenSpec.ofChange fnExactAreLinkedWrong)

/-- 'laws.FnExactGuardsAfter': WHATEVER THE INPUT: true; the input reads as it did. -/
def fnExactGuardsAfterSpec : ChangeSpec := { name := "fnExactGuardsAfter", fn := fun _ => fun
  | [d1, d2] => { results := [.lit (.bool true)], args := [d1, d2] }
  | _ => none }
def fnExactGuardsAfterRow : OpenClaim := { program := "ytnkdafdafgjicaa", sum := "9ae5b0c1d20dc1dffa0e842c03a92797ff75556f2c7a26cfae1e7c0fccdfe5fb", func := "loop.example/g00991/laws.FnExactGuardsAfter", spec := "fnExactGuardsAfter", unfollowed := true, recurses := true, apart := false }
def FnExactGuardsAfterSaid : Prop := fnExactGuardsAfterRow.holds Try.pinned (OpenSpec.ofChange fnExactGuardsAfterSpec)

/-- ITS FALSE NEIGHBOUR: 'it returns false'. Refute it at one input. -/
def fnExactGuardsAfterWrong : ChangeSpec := { name := "fnExactGuardsAfter", fn := fun _ => fun
  | [d1, d2] => { results := [.lit (.bool false)], args := [d1, d2] }
  | _ => none }
def FnExactGuardsAfterWrongFalsely : Prop := fnExactGuardsAfterRow.holds Try.pinned (OpenSpec.ofChange fnExactGuardsAfterWrong)

/-- 'laws.FnExactGuardsFor': WHATEVER THE INPUT: true; the input reads as it did. -/
def fnExactGuardsForSpec : ChangeSpec := { name := "fnExactGuardsFor", fn := fun _ => fun
  | [d1, d2] => { results := [.lit (.bool true)], args := [d1, d2] }
  | _ => none }
def fnExactGuardsForRow : OpenClaim := { program := "ytnkdafdafgjicaa", sum := "9ae5b0c1d20dc1dffa0e842c03a92797ff75556f2c7a26cfae1e7c0fccdfe5fb", func := "loop.example/g00991/laws.FnExactGuardsFor", spec := "fnExactGuardsFor", unfollowed := true, recurses := true, apart := false }
def FnExactGuardsForSaid : Prop := fnExactGuardsForRow.holds Try.pinned (OpenSpec.ofChange fnExactGuardsForSpec)

/-- ITS FALSE NEIGHBOUR: 'it returns false'. Refute it at one input. -/
def fnExactGuardsForWrong : ChangeSpec := { name := "fnExactGuardsFor", fn := fun _ => fun
  | [d1, d2] => { results := [.lit (.bool false)], args := [d1, d2] }
  | _ => none }
def FnExactGuardsForWrongFalsely : Prop := fnExactGuardsForRow.holds Try.pinned (OpenSpec.ofChange fnExactGuardsForWrong)

/-- 'laws.FnExactFewestSearchers': WHATEVER THE INPUT: true; the input reads as it did. -/
def fnExactFewestSearchersSpec : ChangeSpec := { name := "fnExactFewestSearchers", fn := fun _ => fun
  | [d] => { results := [.lit (.bool true)], args := [d] }
  | _ => none }
def fnExactFewestSearchersRow : OpenClaim := { program := "ytnkdafdafgjicaa", sum := "9ae5b0c1d20dc1dffa0e842c03a92797ff75556f2c7a26cfae1e7c0fccdfe5fb", func := "loop.example/g00991/laws.FnExactFewestSearchers", spec := "fnExactFewestSearchers", unfollowed := true, recurses := true, apart := false }
def FnExactFewestSearchersSaid : Prop := fnExactFewestSearchersRow.holds Try.pinned (OpenSpec.ofChange fnExactFewestSearchersSpec)

/-- ITS FALSE NEIGHBOUR: 'it returns false'. Refute it at one input. -/
def fnExactFewestSearchersWrong : ChangeSpec := { name := "fnExactFewestSearchers", fn := fun _ => fun
  | [d] => { results := [.lit (.bool false)], args := [d] }
  | _ => none }
def FnExactFewestSearchersWrongFalsely : Prop := fnExactFewestSearchersRow.holds Try.pinned (OpenSpec.ofChange fnExactFewestSearchersWrong)

/-- 'laws.FnExactDispatchCost': WHATEVER THE INPUT: true; the input reads as it did. -/
def fnExactDispatchCostSpec : ChangeSpec := { name := "fnExactDispatchCost", fn := fun _ => fun
  | [d1, d2, d3] => { results := [.lit (.bool true)], args := [d1, d2, d3] }
  | _ => none }
def fnExactDispatchCostRow : OpenClaim := { program := "ytnkdafdafgjicaa", sum := "9ae5b0c1d20dc1dffa0e842c03a92797ff75556f2c7a26cfae1e7c0fccdfe5fb", func := "loop.example/g00991/laws.FnExactDispatchCost", spec := "fnExactDispatchCost", unfollowed := true, recurses := true, apart := false }
def FnExactDispatchCostSaid : Prop := fnExactDispatchCostRow.holds Try.pinned (OpenSpec.ofChange fnExactDispatchCostSpec)

/-- ITS FALSE NEIGHBOUR: 'it returns false'. Refute it at one input. -/
def fnExactDispatchCostWrong : ChangeSpec := { name := "fnExactDispatchCost", fn := fun _ => fun
  | [d1, d2, d3] => { results := [.lit (.bool false)], args := [d1, d2, d3] }
  | _ => none }
def FnExactDispatchCostWrongFalsely : Prop := fnExactDispatchCostRow.holds Try.pinned (OpenSpec.ofChange fnExactDispatchCostWrong)

/- THE SECOND FORM. 'bulk': how many values and letters a reading holds, each counted each time it is reached (what is shared counts as often as it is met; a slice's spare places count too). A statement '..UptoSaid' is the law's where the arguments, and the package variables that the reading takes, are together of bulk at most 1048576: NARROWER than '..Said'. Prove '..Said' where nothing that the law and all that it calls make is longer than what came in: it says more and counts as full. Else prove '..UptoSaid'. A law counts once. -/
mutual
def uptoBulk {H : Type} : DataW H → Nat
  | .lit (.string bytes) => bytes.length + 1
  | .lit _ => 1
  | .nil => 1
  | .ptr d => uptoBulk d + 1
  | .slice elems spare => uptoBulkAll elems + uptoBulkAll spare + 1
  | .agg parts => uptoBulkAll parts + 1
  | .iface _ d => uptoBulk d + 1
  | .map entries => uptoBulkEntries entries + 1
  | .held _ => 1
def uptoBulkAll {H : Type} : List (DataW H) → Nat
  | [] => 0
  | d :: r => uptoBulk d + uptoBulkAll r
def uptoBulkEntries {H : Type} : List (Lit × DataW H) → Nat
  | [] => 0
  | x :: r => uptoBulkEntry x + uptoBulkEntries r
def uptoBulkEntry {H : Type} : Lit × DataW H → Nat
  | (.string bytes, d) => bytes.length + uptoBulk d + 1
  | (_, d) => uptoBulk d + 1
 end
def uptoSmall : (H : Type) → List (DataW H) → Bool := fun _ ds => decide (uptoBulkAll ds ≤ 1048576)
def OpenSpec.upto (s : _root_.Go.ChangeSpec) : _root_.Go.OpenSpec := { _root_.Go.OpenSpec.ofChange s with cond := some uptoSmall }

/-- 'laws.FnExactNearestTo', WHERE WHAT IT READS IS OF BULK AT MOST 1048576: true; the input reads as it did. -/
def fnExactNearestToUptoRow : OpenClaim := { program := "ytnkdafdafgjicaa", sum := "9ae5b0c1d20dc1dffa0e842c03a92797ff75556f2c7a26cfae1e7c0fccdfe5fb", func := "loop.example/g00991/laws.FnExactNearestTo", spec := "fnExactNearestTo", unfollowed := true, recurses := true, apart := false, narrowed := true }
def FnExactNearestToUptoSaid : Prop := fnExactNearestToUptoRow.holds Try.pinned (OpenSpec.upto fnExactNearestToSpec)

/-- 'laws.FnExactAreLinked', WHERE WHAT IT READS IS OF BULK AT MOST 1048576: true; the input reads as it did. -/
def fnExactAreLinkedUptoRow : OpenClaim := { program := "ytnkdafdafgjicaa", sum := "9ae5b0c1d20dc1dffa0e842c03a92797ff75556f2c7a26cfae1e7c0fccdfe5fb", func := "loop.example/g00991/laws.FnExactAreLinked", spec := "fnExactAreLinked", unfollowed := true, recurses := true, apart := false, narrowed := true }
def FnExactAreLinkedUptoSaid : Prop := fnExactAreLinkedUptoRow.holds Try.pinned (OpenSpec.upto fnExactAreLinkedSpec)

/-- 'laws.FnExactGuardsAfter', WHERE WHAT IT READS IS OF BULK AT MOST 1048576: true; the input reads as it did. -/
def fnExactGuardsAfterUptoRow : OpenClaim := { program := "ytnkdafdafgjicaa", sum := "9ae5b0c1d20dc1dffa0e842c03a92797ff75556f2c7a26cfae1e7c0fccdfe5fb", func := "loop.example/g00991/laws.FnExactGuardsAfter", spec := "fnExactGuardsAfter", unfollowed := true, recurses := true, apart := false, narrowed := true }
def FnExactGuardsAfterUptoSaid : Prop := fnExactGuardsAfterUptoRow.holds Try.pinned (OpenSpec.upto fnExactGuardsAfterSpec)

/-- 'laws.FnExactGuardsFor', WHERE WHAT IT READS IS OF BULK AT MOST 1048576: true; the input reads as it did. -/
def fnExactGuardsForUptoRow : OpenClaim := { program := "ytnkdafdafgjicaa", sum := "9ae5b0c1d20dc1dffa0e842c03a92797ff75556f2c7a26cfae1e7c0fccdfe5fb", func := "loop.example/g00991/laws.FnExactGuardsFor", spec := "fnExactGuardsFor", unfollowed := true, recurses := true, apart := false, narrowed := true }
def FnExactGuardsForUptoSaid : Prop := fnExactGuardsForUptoRow.holds Try.pinned (OpenSpec.upto fnExactGuardsForSpec)

/-- 'laws.FnExactFewestSearchers', WHERE WHAT IT READS IS OF BULK AT MOST 1048576: true; the input reads as it did. -/
def fnExactFewestSearchersUptoRow : OpenClaim := { program := "ytnkdafdafgjicaa", sum := "9ae5b0c1d20dc1dffa0e842c03a92797ff75556f2c7a26cfae1e7c0fccdfe5fb", func := "loop.example/g00991/laws.FnExactFewestSearchers", spec := "fnExactFewestSearchers", unfollowed := true, recurses := true, apart := false, narrowed := true }
def FnExactFewestSearchersUptoSaid : Prop := fnExactFewestSearchersUptoRow.holds Try.pinned (OpenSpec.upto fnExactFewestSearchersSpec)

/-- 'laws.FnExactDispatchCost', WHERE WHAT IT READS IS OF BULK AT MOST 1048576: true; the input reads as it did. -/
def fnExactDispatchCostUptoRow : OpenClaim := { program := "ytnkdafdafgjicaa", sum := "9ae5b0c1d20dc1dffa0e842c03a92797ff75556f2c7a26cfae1e7c0fccdfe5fb", func := "loop.example/g00991/laws.FnExactDispatchCost", spec := "fnExactDispatchCost", unfollowed := true, recurses := true, apart := false, narrowed := true }
def FnExactDispatchCostUptoSaid : Prop := fnExactDispatchCostUptoRow.holds Try.pinned (OpenSpec.upto fnExactDispatchCostSpec)

end Rows
end Go.Proofs.Ytnkdafdafgjicaa
