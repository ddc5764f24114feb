/-
  No cell of these rows narrows 'for every input' (looked for: loops, veiled, ifaces, maps, wideKeys, modest, calm, conditions, laid).
  DERIVED. THE GIVEN ROWS OF THIS SEAT. 13 by the template 'for every input the law returns true; each argument reads behind the call as it read before'; 0 by the template 'total and deterministic' (their statements: YtbhbpibghjiknaaTotals.lean).
  GIVEN WITH THE SEED: the statements are not yours to turn. If you find one false, say at which input.
  Laid BY PROGRAM, IN A SANDBOX (cutbox-rows.mjs): the forced cells as the released guide's own fill.sh prints them over the translation 8a08b21cb2c858b7… (all of the seat's roots in one cut). By AI agents, Wed Nov 11 2026. No macro, syntax, notation, axiom, sorry.
-/
import Derived.Test.YtbhbpibghjiknaaChecked
import GoSem.Claim
import GoSem.ClaimJoined
import GoSem.ClaimMapViews
import Derived.JoinedTies
import Derived.KernelRfl
namespace Go.Proofs.Ytbhbpibghjiknaa
/- THE CELL 'sum', in the pinned program and in every row, IS THE sha256 OF THE DUMP (.gsa) THAT YtbhbpibghjiknaaProg.lean LOADS. Nothing in Lean hashes anything: it is a label: what it is worth is what the hold of that sum in a sandbox is worth. -/
noncomputable def Try.pinned : Pinned := { name := "ytbhbpibghjiknaa", sum := "8a08b21cb2c858b74a753fe31d4cad841cbb2eb1c1ad144274e8502737c33e44", checked := Try.checked }
namespace Rows
def none {H : Type} : Left H := { results := [], args := [] }

/-- 'laws.FnExactZoneOk': WHATEVER THE INPUT: true; the input reads as it did. -/
def fnExactZoneOkSpec : ChangeSpec := { name := "fnExactZoneOk", fn := fun _ => fun
  | [d] => { results := [.lit (.bool true)], args := [d] }
  | _ => none }
def fnExactZoneOkRow : OpenClaim := { program := "ytbhbpibghjiknaa", sum := "8a08b21cb2c858b74a753fe31d4cad841cbb2eb1c1ad144274e8502737c33e44", func := "loop.example/g00991/laws.FnExactZoneOk", spec := "fnExactZoneOk", apart := false }
def FnExactZoneOkSaid : Prop := fnExactZoneOkRow.holds Try.pinned (OpenSpec.ofChange fnExactZoneOkSpec)

/-- ITS FALSE NEIGHBOUR: 'it returns false'. Refute it at one input. -/
def fnExactZoneOkWrong : ChangeSpec := { name := "fnExactZoneOk", fn := fun _ => fun
  | [d] => { results := [.lit (.bool false)], args := [d] }
  | _ => none }
def FnExactZoneOkWrongFalsely : Prop := fnExactZoneOkRow.holds Try.pinned (OpenSpec.ofChange fnExactZoneOkWrong)

/-- 'laws.FnExactDigestOf': WHATEVER THE INPUT: true; the input reads as it did. -/
def fnExactDigestOfSpec : ChangeSpec := { name := "fnExactDigestOf", fn := fun _ => fun
  | [d] => { results := [.lit (.bool true)], args := [d] }
  | _ => none }
def fnExactDigestOfRow : OpenClaim := { program := "ytbhbpibghjiknaa", sum := "8a08b21cb2c858b74a753fe31d4cad841cbb2eb1c1ad144274e8502737c33e44", func := "loop.example/g00991/laws.FnExactDigestOf", spec := "fnExactDigestOf", apart := false }
def FnExactDigestOfSaid : Prop := fnExactDigestOfRow.holds Try.pinned (OpenSpec.ofChange fnExactDigestOfSpec)

/-- ITS FALSE NEIGHBOUR: 'it returns false'. Refute it at one input. -/
def fnExactDigestOfWrong : ChangeSpec := { name := "fnExactDigestOf", fn := fun _ => fun
  | [d] => { results := [.lit (.bool false)], args := [d] }
  | _ => none }
def FnExactDigestOfWrongFalsely : Prop := fnExactDigestOfRow.holds Try.pinned (OpenSpec.ofChange fnExactDigestOfWrong)

/-- 'laws.FnExactSealAfter': WHATEVER THE INPUT: true; the input reads as it did. -/
def fnExactSealAfterSpec : ChangeSpec := { name := "fnExactSealAfter", fn := fun _ => fun
  | [d1, d2, d3] => { results := [.lit (.bool true)], args := [d1, d2, d3] }
  | _ => none }
def fnExactSealAfterRow : OpenClaim := { program := "ytbhbpibghjiknaa", sum := "8a08b21cb2c858b74a753fe31d4cad841cbb2eb1c1ad144274e8502737c33e44", func := "loop.example/g00991/laws.FnExactSealAfter", spec := "fnExactSealAfter", apart := false }
def FnExactSealAfterSaid : Prop := fnExactSealAfterRow.holds Try.pinned (OpenSpec.ofChange fnExactSealAfterSpec)

/-- ITS FALSE NEIGHBOUR: 'it returns false'. Refute it at one input. -/
def fnExactSealAfterWrong : ChangeSpec := { name := "fnExactSealAfter", fn := fun _ => fun
  | [d1, d2, d3] => { results := [.lit (.bool false)], args := [d1, d2, d3] }
  | _ => none }
def FnExactSealAfterWrongFalsely : Prop := fnExactSealAfterRow.holds Try.pinned (OpenSpec.ofChange fnExactSealAfterWrong)

/-- 'laws.FnExactLastSeal': WHATEVER THE INPUT: true; the input reads as it did. -/
def fnExactLastSealSpec : ChangeSpec := { name := "fnExactLastSeal", fn := fun _ => fun
  | [d] => { results := [.lit (.bool true)], args := [d] }
  | _ => none }
def fnExactLastSealRow : OpenClaim := { program := "ytbhbpibghjiknaa", sum := "8a08b21cb2c858b74a753fe31d4cad841cbb2eb1c1ad144274e8502737c33e44", func := "loop.example/g00991/laws.FnExactLastSeal", spec := "fnExactLastSeal", apart := false }
def FnExactLastSealSaid : Prop := fnExactLastSealRow.holds Try.pinned (OpenSpec.ofChange fnExactLastSealSpec)

/-- ITS FALSE NEIGHBOUR: 'it returns false'. Refute it at one input. -/
def fnExactLastSealWrong : ChangeSpec := { name := "fnExactLastSeal", fn := fun _ => fun
  | [d] => { results := [.lit (.bool false)], args := [d] }
  | _ => none }
def FnExactLastSealWrongFalsely : Prop := fnExactLastSealRow.holds Try.pinned (OpenSpec.ofChange fnExactLastSealWrong)

/-- 'laws.FnExactRaises': WHATEVER THE INPUT: true; the input reads as it did. -/
def fnExactRaisesSpec : ChangeSpec := { name := "fnExactRaises", fn := fun _ => fun
  | [d1, d2] => { results := [.lit (.bool true)], args := [d1, d2] }
  | _ => none }
def fnExactRaisesRow : OpenClaim := { program := "ytbhbpibghjiknaa", sum := "8a08b21cb2c858b74a753fe31d4cad841cbb2eb1c1ad144274e8502737c33e44", func := "loop.example/g00991/laws.FnExactRaises", spec := "fnExactRaises", apart := false }
def FnExactRaisesSaid : Prop := fnExactRaisesRow.holds Try.pinned (OpenSpec.ofChange fnExactRaisesSpec)

/-- ITS FALSE NEIGHBOUR: 'it returns false'. Refute it at one input. -/
def fnExactRaisesWrong : ChangeSpec := { name := "fnExactRaises", fn := fun _ => fun
  | [d1, d2] => { results := [.lit (.bool false)], args := [d1, d2] }
  | _ => none }
def FnExactRaisesWrongFalsely : Prop := fnExactRaisesRow.holds Try.pinned (OpenSpec.ofChange fnExactRaisesWrong)

/-- 'laws.FnExactFirstBroken': WHATEVER THE INPUT: true; the input reads as it did. -/
def fnExactFirstBrokenSpec : ChangeSpec := { name := "fnExactFirstBroken", fn := fun _ => fun
  | [d] => { results := [.lit (.bool true)], args := [d] }
  | _ => none }
def fnExactFirstBrokenRow : OpenClaim := { program := "ytbhbpibghjiknaa", sum := "8a08b21cb2c858b74a753fe31d4cad841cbb2eb1c1ad144274e8502737c33e44", func := "loop.example/g00991/laws.FnExactFirstBroken", spec := "fnExactFirstBroken", apart := false }
def FnExactFirstBrokenSaid : Prop := fnExactFirstBrokenRow.holds Try.pinned (OpenSpec.ofChange fnExactFirstBrokenSpec)

/-- ITS FALSE NEIGHBOUR: 'it returns false'. Refute it at one input. -/
def fnExactFirstBrokenWrong : ChangeSpec := { name := "fnExactFirstBroken", fn := fun _ => fun
  | [d] => { results := [.lit (.bool false)], args := [d] }
  | _ => none }
def FnExactFirstBrokenWrongFalsely : Prop := fnExactFirstBrokenRow.holds Try.pinned (OpenSpec.ofChange fnExactFirstBrokenWrong)

/-- 'laws.FnExactIsSealed': WHATEVER THE INPUT: true; the input reads as it did. -/
def fnExactIsSealedSpec : ChangeSpec := { name := "fnExactIsSealed", fn := fun _ => fun
  | [d] => { results := [.lit (.bool true)], args := [d] }
  | _ => none }
def fnExactIsSealedRow : OpenClaim := { program := "ytbhbpibghjiknaa", sum := "8a08b21cb2c858b74a753fe31d4cad841cbb2eb1c1ad144274e8502737c33e44", func := "loop.example/g00991/laws.FnExactIsSealed", spec := "fnExactIsSealed", apart := false }
def FnExactIsSealedSaid : Prop := fnExactIsSealedRow.holds Try.pinned (OpenSpec.ofChange fnExactIsSealedSpec)

/-- ITS FALSE NEIGHBOUR: 'it returns false'. Refute it at one input. -/
def fnExactIsSealedWrong : ChangeSpec := { name := "fnExactIsSealed", fn := fun _ => fun
  | [d] => { results := [.lit (.bool false)], args := [d] }
  | _ => none }
def FnExactIsSealedWrongFalsely : Prop := fnExactIsSealedRow.holds Try.pinned (OpenSpec.ofChange fnExactIsSealedWrong)

/-- 'laws.FnSeals': WHATEVER THE INPUT: true; the input reads as it did. -/
def fnSealsSpec : ChangeSpec := { name := "fnSeals", fn := fun _ => fun
  | [d] => { results := [.lit (.bool true)], args := [d] }
  | _ => none }
def fnSealsRow : OpenClaim := { program := "ytbhbpibghjiknaa", sum := "8a08b21cb2c858b74a753fe31d4cad841cbb2eb1c1ad144274e8502737c33e44", func := "loop.example/g00991/laws.FnSeals", spec := "fnSeals", apart := false }
def FnSealsSaid : Prop := fnSealsRow.holds Try.pinned (OpenSpec.ofChange fnSealsSpec)

/-- ITS FALSE NEIGHBOUR: 'it returns false'. Refute it at one input. -/
def fnSealsWrong : ChangeSpec := { name := "fnSeals", fn := fun _ => fun
  | [d] => { results := [.lit (.bool false)], args := [d] }
  | _ => none }
def FnSealsWrongFalsely : Prop := fnSealsRow.holds Try.pinned (OpenSpec.ofChange fnSealsWrong)

/-- 'laws.FnExactAlarmsOf': WHATEVER THE INPUT: true; the input reads as it did. -/
def fnExactAlarmsOfSpec : ChangeSpec := { name := "fnExactAlarmsOf", fn := fun _ => fun
  | [d1, d2] => { results := [.lit (.bool true)], args := [d1, d2] }
  | _ => none }
def fnExactAlarmsOfRow : OpenClaim := { program := "ytbhbpibghjiknaa", sum := "8a08b21cb2c858b74a753fe31d4cad841cbb2eb1c1ad144274e8502737c33e44", func := "loop.example/g00991/laws.FnExactAlarmsOf", spec := "fnExactAlarmsOf", apart := false }
def FnExactAlarmsOfSaid : Prop := fnExactAlarmsOfRow.holds Try.pinned (OpenSpec.ofChange fnExactAlarmsOfSpec)

/-- ITS FALSE NEIGHBOUR: 'it returns false'. Refute it at one input. -/
def fnExactAlarmsOfWrong : ChangeSpec := { name := "fnExactAlarmsOf", fn := fun _ => fun
  | [d1, d2] => { results := [.lit (.bool false)], args := [d1, d2] }
  | _ => none }
def FnExactAlarmsOfWrongFalsely : Prop := fnExactAlarmsOfRow.holds Try.pinned (OpenSpec.ofChange fnExactAlarmsOfWrong)

/-- 'laws.FnExactAppendEntry': WHATEVER THE INPUT: true; the input reads as it did. -/
def fnExactAppendEntrySpec : ChangeSpec := { name := "fnExactAppendEntry", fn := fun _ => fun
  | [d1, d2, d3] => { results := [.lit (.bool true)], args := [d1, d2, d3] }
  | _ => none }
def fnExactAppendEntryRow : OpenClaim := { program := "ytbhbpibghjiknaa", sum := "8a08b21cb2c858b74a753fe31d4cad841cbb2eb1c1ad144274e8502737c33e44", func := "loop.example/g00991/laws.FnExactAppendEntry", spec := "fnExactAppendEntry", apart := false }
def FnExactAppendEntrySaid : Prop := fnExactAppendEntryRow.holds Try.pinned (OpenSpec.ofChange fnExactAppendEntrySpec)

/-- ITS FALSE NEIGHBOUR: 'it returns false'. Refute it at one input. -/
def fnExactAppendEntryWrong : ChangeSpec := { name := "fnExactAppendEntry", fn := fun _ => fun
  | [d1, d2, d3] => { results := [.lit (.bool false)], args := [d1, d2, d3] }
  | _ => none }
def FnExactAppendEntryWrongFalsely : Prop := fnExactAppendEntryRow.holds Try.pinned (OpenSpec.ofChange fnExactAppendEntryWrong)

/-- 'laws.FnExactQuietAlarms': WHATEVER THE INPUT: true; the input reads as it did. -/
def fnExactQuietAlarmsSpec : ChangeSpec := { name := "fnExactQuietAlarms", fn := fun _ => fun
  | [d1, d2, d3] => { results := [.lit (.bool true)], args := [d1, d2, d3] }
  | _ => none }
def fnExactQuietAlarmsRow : OpenClaim := { program := "ytbhbpibghjiknaa", sum := "8a08b21cb2c858b74a753fe31d4cad841cbb2eb1c1ad144274e8502737c33e44", func := "loop.example/g00991/laws.FnExactQuietAlarms", spec := "fnExactQuietAlarms", unfollowed := true, recurses := true, apart := false }
def FnExactQuietAlarmsSaid : Prop := fnExactQuietAlarmsRow.holds Try.pinned (OpenSpec.ofChange fnExactQuietAlarmsSpec)

/-- ITS FALSE NEIGHBOUR: 'it returns false'. Refute it at one input. -/
def fnExactQuietAlarmsWrong : ChangeSpec := { name := "fnExactQuietAlarms", fn := fun _ => fun
  | [d1, d2, d3] => { results := [.lit (.bool false)], args := [d1, d2, d3] }
  | _ => none }
def FnExactQuietAlarmsWrongFalsely : Prop := fnExactQuietAlarmsRow.holds Try.pinned (OpenSpec.ofChange fnExactQuietAlarmsWrong)

/-- 'laws.FnAlarms': WHATEVER THE INPUT: true; the input reads as it did. -/
def fnAlarmsSpec : ChangeSpec := { name := "fnAlarms", fn := fun _ => fun
  | [d] => { results := [.lit (.bool true)], args := [d] }
  | _ => none }
def fnAlarmsRow : OpenClaim := { program := "ytbhbpibghjiknaa", sum := "8a08b21cb2c858b74a753fe31d4cad841cbb2eb1c1ad144274e8502737c33e44", func := "loop.example/g00991/laws.FnAlarms", spec := "fnAlarms", unfollowed := true, recurses := true, apart := false }
def FnAlarmsSaid : Prop := fnAlarmsRow.holds Try.pinned (OpenSpec.ofChange fnAlarmsSpec)

/-- ITS FALSE NEIGHBOUR: 'it returns false'. Refute it at one input. -/
def fnAlarmsWrong : ChangeSpec := { name := "fnAlarms", fn := fun _ => fun
  | [d] => { results := [.lit (.bool false)], args := [d] }
  | _ => none }
def FnAlarmsWrongFalsely : Prop := fnAlarmsRow.holds Try.pinned (OpenSpec.ofChange fnAlarmsWrong)

/-- 'laws.FnExactLongestCalm': WHATEVER THE INPUT: true; the input reads as it did. -/
def fnExactLongestCalmSpec : ChangeSpec := { name := "fnExactLongestCalm", fn := fun _ => fun
  | [d1, d2] => { results := [.lit (.bool true)], args := [d1, d2] }
  | _ => none }
def fnExactLongestCalmRow : OpenClaim := { program := "ytbhbpibghjiknaa", sum := "8a08b21cb2c858b74a753fe31d4cad841cbb2eb1c1ad144274e8502737c33e44", func := "loop.example/g00991/laws.FnExactLongestCalm", spec := "fnExactLongestCalm", recurses := true, apart := false }
def FnExactLongestCalmSaid : Prop := fnExactLongestCalmRow.holds Try.pinned (OpenSpec.ofChange fnExactLongestCalmSpec)

/-- ITS FALSE NEIGHBOUR: 'it returns false'. Refute it at one input. -/
def fnExactLongestCalmWrong : ChangeSpec := { name := "fnExactLongestCalm", fn := fun _ => fun
  | [d1, d2] => { results := [.lit (.bool false)], args := [d1, d2] }
  | _ => none }
def FnExactLongestCalmWrongFalsely : Prop := fnExactLongestCalmRow.holds Try.pinned (OpenSpec.ofChange fnExactLongestCalmWrong)

/- THE SECOND FORM. 'bulk': how many values and letters a reading holds, each counted each time it is reached (what is shared counts as often as it is met; a slice's spare places count too). A statement '..UptoSaid' is the law's where the arguments, and the package variables that the reading takes, are together of bulk at most 1048576: NARROWER than '..Said'. Prove '..Said' where nothing that the law and all that it calls make is longer than what came in: it says more and counts as full. Else prove '..UptoSaid'. A law counts once. -/
mutual
def uptoBulk {H : Type} : DataW H → Nat
  | .lit (.string bytes) => bytes.length + 1
  | .lit _ => 1
  | .nil => 1
  | .ptr d => uptoBulk d + 1
  | .slice elems spare => uptoBulkAll elems + uptoBulkAll spare + 1
  | .agg parts => uptoBulkAll parts + 1
  | .iface _ d => uptoBulk d + 1
  | .map entries => uptoBulkEntries entries + 1
  | .held _ => 1
def uptoBulkAll {H : Type} : List (DataW H) → Nat
  | [] => 0
  | d :: r => uptoBulk d + uptoBulkAll r
def uptoBulkEntries {H : Type} : List (Lit × DataW H) → Nat
  | [] => 0
  | x :: r => uptoBulkEntry x + uptoBulkEntries r
def uptoBulkEntry {H : Type} : Lit × DataW H → Nat
  | (.string bytes, d) => bytes.length + uptoBulk d + 1
  | (_, d) => uptoBulk d + 1
 end
def uptoSmall : (H : Type) → List (DataW H) → Bool := fun _ ds => decide (uptoBulkAll ds ≤ 1048576)
def OpenSpec.upto (s : _root_.Go.ChangeSpec) : _root_.Go.OpenSpec := { _root_.Go.OpenSpec.ofChange s with cond := some uptoSmall }

/-- 'laws.FnExactZoneOk', WHERE WHAT IT READS IS OF BULK AT MOST 1048576: true; the input reads as it did. -/
def fnExactZoneOkUptoRow : OpenClaim := { program := "ytbhbpibghjiknaa", sum := "8a08b21cb2c858b74a753fe31d4cad841cbb2eb1c1ad144274e8502737c33e44", func := "loop.example/g00991/laws.FnExactZoneOk", spec := "fnExactZoneOk", apart := false, narrowed := true }
def FnExactZoneOkUptoSaid : Prop := fnExactZoneOkUptoRow.holds Try.pinned (OpenSpec.upto fnExactZoneOkSpec)

/-- 'laws.FnExactDigestOf', WHERE WHAT IT READS IS OF BULK AT MOST 1048576: true; the input reads as it did. -/
def fnExactDigestOfUptoRow : OpenClaim := { program := "ytbhbpibghjiknaa", sum := "8a08b21cb2c858b74a753fe31d4cad841cbb2eb1c1ad144274e8502737c33e44", func := "loop.example/g00991/laws.FnExactDigestOf", spec := "fnExactDigestOf", apart := false, narrowed := true }
def FnExactDigestOfUptoSaid : Prop := fnExactDigestOfUptoRow.holds Try.pinned (OpenSpec.upto fnExactDigestOfSpec)

/-- 'laws.FnExactSealAfter', WHERE WHAT IT READS IS OF BULK AT MOST 1048576: true; the input reads as it did. -/
def fnExactSealAfterUptoRow : OpenClaim := { program := "ytbhbpibghjiknaa", sum := "8a08b21cb2c858b74a753fe31d4cad841cbb2eb1c1ad144274e8502737c33e44", func := "loop.example/g00991/laws.FnExactSealAfter", spec := "fnExactSealAfter", apart := false, narrowed := true }
def FnExactSealAfterUptoSaid : Prop := fnExactSealAfterUptoRow.holds Try.pinned (OpenSpec.upto fnExactSealAfterSpec)

/-- 'laws.FnExactLastSeal', WHERE WHAT IT READS IS OF BULK AT MOST 1048576: true; the input reads as it did. -/
def fnExactLastSealUptoRow : OpenClaim := { program := "ytbhbpibghjiknaa", sum := "8a08b21cb2c858b74a753fe31d4cad841cbb2eb1c1ad144274e8502737c33e44", func := "loop.example/g00991/laws.FnExactLastSeal", spec := "fnExactLastSeal", apart := false, narrowed := true }
def FnExactLastSealUptoSaid : Prop := fnExactLastSealUptoRow.holds Try.pinned (OpenSpec.upto fnExactLastSealSpec)

/-- 'laws.FnExactRaises', WHERE WHAT IT READS IS OF BULK AT MOST 1048576: true; the input reads as it did. -/
def fnExactRaisesUptoRow : OpenClaim := { program := "ytbhbpibghjiknaa", sum := "8a08b21cb2c858b74a753fe31d4cad841cbb2eb1c1ad144274e8502737c33e44", func := "loop.example/g00991/laws.FnExactRaises", spec := "fnExactRaises", apart := false, narrowed := true }
def FnExactRaisesUptoSaid : Prop := fnExactRaisesUptoRow.holds Try.pinned (OpenSpec.upto fnExactRaisesSpec)

/-- 'laws.FnExactFirstBroken', WHERE WHAT IT READS IS OF BULK AT MOST 1048576: true; the input reads as it did. -/
def fnExactFirstBrokenUptoRow : OpenClaim := { program := "ytbhbpibghjiknaa", sum := "8a08b21cb2c858b74a753fe31d4cad841cbb2eb1c1ad144274e8502737c33e44", func := "loop.example/g00991/laws.FnExactFirstBroken", spec := "fnExactFirstBroken", apart := false, narrowed := true }
def FnExactFirstBrokenUptoSaid : Prop := fnExactFirstBrokenUptoRow.holds Try.pinned (OpenSpec.upto fnExactFirstBrokenSpec)

/-- 'laws.FnExactIsSealed', WHERE WHAT IT READS IS OF BULK AT MOST 1048576: true; the input reads as it did. -/
def fnExactIsSealedUptoRow : OpenClaim := { program := "ytbhbpibghjiknaa", sum := "8a08b21cb2c858b74a753fe31d4cad841cbb2eb1c1ad144274e8502737c33e44", func := "loop.example/g00991/laws.FnExactIsSealed", spec := "fnExactIsSealed", apart := false, narrowed := true }
def FnExactIsSealedUptoSaid : Prop := fnExactIsSealedUptoRow.holds Try.pinned (OpenSpec.upto fnExactIsSealedSpec)

/-- 'laws.FnSeals', WHERE WHAT IT READS IS OF BULK AT MOST 1048576: true; the input reads as it did. -/
def fnSealsUptoRow : OpenClaim := { program := "ytbhbpibghjiknaa", sum := "8a08b21cb2c858b74a753fe31d4cad841cbb2eb1c1ad144274e8502737c33e44", func := "loop.example/g00991/laws.FnSeals", spec := "fnSeals", apart := false, narrowed := true }
def FnSealsUptoSaid : Prop := fnSealsUptoRow.holds Try.pinned (OpenSpec.upto fnSealsSpec)

/-- 'laws.FnExactAlarmsOf', WHERE WHAT IT READS IS OF BULK AT MOST 1048576: true; the input reads as it did. -/
def fnExactAlarmsOfUptoRow : OpenClaim := { program := "ytbhbpibghjiknaa", sum := "8a08b21cb2c858b74a753fe31d4cad841cbb2eb1c1ad144274e8502737c33e44", func := "loop.example/g00991/laws.FnExactAlarmsOf", spec := "fnExactAlarmsOf", apart := false, narrowed := true }
def FnExactAlarmsOfUptoSaid : Prop := fnExactAlarmsOfUptoRow.holds Try.pinned (OpenSpec.upto fnExactAlarmsOfSpec)

/-- 'laws.FnExactAppendEntry', WHERE WHAT IT READS IS OF BULK AT MOST 1048576: true; the input reads as it did. -/
def fnExactAppendEntryUptoRow : OpenClaim := { program := "ytbhbpibghjiknaa", sum := "8a08b21cb2c858b74a753fe31d4cad841cbb2eb1c1ad144274e8502737c33e44", func := "loop.example/g00991/laws.FnExactAppendEntry", spec := "fnExactAppendEntry", apart := false, narrowed := true }
def FnExactAppendEntryUptoSaid : Prop := fnExactAppendEntryUptoRow.holds Try.pinned (OpenSpec.upto fnExactAppendEntrySpec)

/-- 'laws.FnExactQuietAlarms', WHERE WHAT IT READS IS OF BULK AT MOST 1048576: true; the input reads as it did. -/
def fnExactQuietAlarmsUptoRow : OpenClaim := { program := "ytbhbpibghjiknaa", sum := "8a08b21cb2c858b74a753fe31d4cad841cbb2eb1c1ad144274e8502737c33e44", func := "loop.example/g00991/laws.FnExactQuietAlarms", spec := "fnExactQuietAlarms", unfollowed := true, recurses := true, apart := false, narrowed := true }
def FnExactQuietAlarmsUptoSaid : Prop := fnExactQuietAlarmsUptoRow.holds Try.pinned (OpenSpec.upto fnExactQuietAlarmsSpec)

/-- 'laws.FnAlarms', WHERE WHAT IT READS IS OF BULK AT MOST 1048576: true; the input reads as it did. -/
def fnAlarmsUptoRow : OpenClaim := { program := "ytbhbpibghjiknaa", sum := "8a08b21cb2c858b74a753fe31d4cad841cbb2eb1c1ad144274e8502737c33e44", func := "loop.example/g00991/laws.FnAlarms", spec := "fnAlarms", unfollowed := true, recurses := true, apart := false, narrowed := true }
def FnAlarmsUptoSaid : Prop := fnAlarmsUptoRow.holds Try.pinned (OpenSpec.upto fnAlarmsSpec)

/-- 'laws.FnExactLongestCalm', WHERE WHAT IT READS IS OF BULK AT MOST 1048576: true; the input reads as it did. -/
def fnExactLongestCalmUptoRow : OpenClaim := { program := "ytbhbpibghjiknaa", sum := "8a08b21cb2c858b74a753fe31d4cad841cbb2eb1c1ad144274e8502737c33e44", func := "loop.example/g00991/laws.FnExactLongestCalm", spec := "fnExactLongestCalm", recurses := true, apart := false, narrowed := true }
def FnExactLongestCalmUptoSaid : Prop := fnExactLongestCalmUptoRow.holds Try.pinned (OpenSpec.upto fnExactLongestCalmSpec)

end Rows
end Go.Proofs.Ytbhbpibghjiknaa
