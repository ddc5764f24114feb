/-
  No cell of these rows narrows 'for every input' (looked for: loops, veiled, ifaces, maps, wideKeys, modest, calm, conditions, laid).
  DERIVED. THE GIVEN ROWS OF THIS SEAT. 6 by the template 'for every input the law returns true; each argument reads behind the call as it read before'; 0 by the template 'total and deterministic' (their statements: YtjjiadjnbpfpdaaTotals.lean).
  GIVEN WITH THE SEED: the statements are not yours to turn. If you find one false, say at which input.
  Laid BY PROGRAM, IN A SANDBOX (cutbox-rows.mjs): the forced cells as the released guide's own fill.sh prints them over the translation 0990962fa66cd73e… (all of the seat's roots in one cut). By AI agents, Wed Nov 11 2026. No macro, syntax, notation, axiom, sorry.
-/
import Derived.Test.YtjjiadjnbpfpdaaChecked
import GoSem.Claim
import GoSem.ClaimJoined
import GoSem.ClaimMapViews
import Derived.JoinedTies
import Derived.KernelRfl
namespace Go.Proofs.Ytjjiadjnbpfpdaa
/- THE CELL 'sum', in the pinned program and in every row, IS THE sha256 OF THE DUMP (.gsa) THAT YtjjiadjnbpfpdaaProg.lean LOADS. Nothing in Lean hashes anything: it is a label: what it is worth is what the hold of that sum in a sandbox is worth. -/
noncomputable def Try.pinned : Pinned := { name := "ytjjiadjnbpfpdaa", sum := "0990962fa66cd73e86a8ad19ba2cd15c11d51da942be2fa36ee62b801a853144", checked := Try.checked }
namespace Rows
def none {H : Type} : Left H := { results := [], args := [] }

/-- 'laws.FnExactPatrolOk': WHATEVER THE INPUT: true; the input reads as it did. -/
def fnExactPatrolOkSpec : ChangeSpec := { name := "fnExactPatrolOk", fn := fun _ => fun
  | [d1, d2] => { results := [.lit (.bool true)], args := [d1, d2] }
  | _ => none }
def fnExactPatrolOkRow : OpenClaim := { program := "ytjjiadjnbpfpdaa", sum := "0990962fa66cd73e86a8ad19ba2cd15c11d51da942be2fa36ee62b801a853144", func := "loop.example/g00991/laws.FnExactPatrolOk", spec := "fnExactPatrolOk", unfollowed := true, recurses := true, apart := false }
def FnExactPatrolOkSaid : Prop := fnExactPatrolOkRow.holds Try.pinned (OpenSpec.ofChange fnExactPatrolOkSpec)

/-- ITS FALSE NEIGHBOUR: 'it returns false'. Refute it at one input. -/
def fnExactPatrolOkWrong : ChangeSpec := { name := "fnExactPatrolOk", fn := fun _ => fun
  | [d1, d2] => { results := [.lit (.bool false)], args := [d1, d2] }
  | _ => none }
def FnExactPatrolOkWrongFalsely : Prop := fnExactPatrolOkRow.holds Try.pinned (OpenSpec.ofChange fnExactPatrolOkWrong)

/-- 'laws.FnExactLongestGap': WHATEVER THE INPUT: true; the input reads as it did. -/
def fnExactLongestGapSpec : ChangeSpec := { name := "fnExactLongestGap", fn := fun _ => fun
  | [d1, d2, d3] => { results := [.lit (.bool true)], args := [d1, d2, d3] }
  | _ => none }
def fnExactLongestGapRow : OpenClaim := { program := "ytjjiadjnbpfpdaa", sum := "0990962fa66cd73e86a8ad19ba2cd15c11d51da942be2fa36ee62b801a853144", func := "loop.example/g00991/laws.FnExactLongestGap", spec := "fnExactLongestGap", unfollowed := true, recurses := true, apart := false }
def FnExactLongestGapSaid : Prop := fnExactLongestGapRow.holds Try.pinned (OpenSpec.ofChange fnExactLongestGapSpec)

/-- ITS FALSE NEIGHBOUR: 'it returns false'. Refute it at one input. -/
def fnExactLongestGapWrong : ChangeSpec := { name := "fnExactLongestGap", fn := fun _ => fun
  | [d1, d2, d3] => { results := [.lit (.bool false)], args := [d1, d2, d3] }
  | _ => none }
def FnExactLongestGapWrongFalsely : Prop := fnExactLongestGapRow.holds Try.pinned (OpenSpec.ofChange fnExactLongestGapWrong)

/-- 'laws.FnExactSeenOn': WHATEVER THE INPUT: true; the input reads as it did. -/
def fnExactSeenOnSpec : ChangeSpec := { name := "fnExactSeenOn", fn := fun _ => fun
  | [d1, d2, d3] => { results := [.lit (.bool true)], args := [d1, d2, d3] }
  | _ => none }
def fnExactSeenOnRow : OpenClaim := { program := "ytjjiadjnbpfpdaa", sum := "0990962fa66cd73e86a8ad19ba2cd15c11d51da942be2fa36ee62b801a853144", func := "loop.example/g00991/laws.FnExactSeenOn", spec := "fnExactSeenOn", unfollowed := true, recurses := true, apart := false }
def FnExactSeenOnSaid : Prop := fnExactSeenOnRow.holds Try.pinned (OpenSpec.ofChange fnExactSeenOnSpec)

/-- ITS FALSE NEIGHBOUR: 'it returns false'. Refute it at one input. -/
def fnExactSeenOnWrong : ChangeSpec := { name := "fnExactSeenOn", fn := fun _ => fun
  | [d1, d2, d3] => { results := [.lit (.bool false)], args := [d1, d2, d3] }
  | _ => none }
def FnExactSeenOnWrongFalsely : Prop := fnExactSeenOnRow.holds Try.pinned (OpenSpec.ofChange fnExactSeenOnWrong)

/-- 'laws.FnExactWatchesAll': WHATEVER THE INPUT: true; the input reads as it did. -/
def fnExactWatchesAllSpec : ChangeSpec := { name := "fnExactWatchesAll", fn := fun _ => fun
  | [d1, d2] => { results := [.lit (.bool true)], args := [d1, d2] }
  | _ => none }
def fnExactWatchesAllRow : OpenClaim := { program := "ytjjiadjnbpfpdaa", sum := "0990962fa66cd73e86a8ad19ba2cd15c11d51da942be2fa36ee62b801a853144", func := "loop.example/g00991/laws.FnExactWatchesAll", spec := "fnExactWatchesAll", unfollowed := true, recurses := true, apart := false }
def FnExactWatchesAllSaid : Prop := fnExactWatchesAllRow.holds Try.pinned (OpenSpec.ofChange fnExactWatchesAllSpec)

/-- ITS FALSE NEIGHBOUR: 'it returns false'. Refute it at one input. -/
def fnExactWatchesAllWrong : ChangeSpec := { name := "fnExactWatchesAll", fn := fun _ => fun
  | [d1, d2] => { results := [.lit (.bool false)], args := [d1, d2] }
  | _ => none }
def FnExactWatchesAllWrongFalsely : Prop := fnExactWatchesAllRow.holds Try.pinned (OpenSpec.ofChange fnExactWatchesAllWrong)

/-- 'laws.FnExactWorstGap': WHATEVER THE INPUT: true; the input reads as it did. -/
def fnExactWorstGapSpec : ChangeSpec := { name := "fnExactWorstGap", fn := fun _ => fun
  | [d1, d2] => { results := [.lit (.bool true)], args := [d1, d2] }
  | _ => none }
def fnExactWorstGapRow : OpenClaim := { program := "ytjjiadjnbpfpdaa", sum := "0990962fa66cd73e86a8ad19ba2cd15c11d51da942be2fa36ee62b801a853144", func := "loop.example/g00991/laws.FnExactWorstGap", spec := "fnExactWorstGap", unfollowed := true, recurses := true, apart := false }
def FnExactWorstGapSaid : Prop := fnExactWorstGapRow.holds Try.pinned (OpenSpec.ofChange fnExactWorstGapSpec)

/-- ITS FALSE NEIGHBOUR: 'it returns false'. Refute it at one input. -/
def fnExactWorstGapWrong : ChangeSpec := { name := "fnExactWorstGap", fn := fun _ => fun
  | [d1, d2] => { results := [.lit (.bool false)], args := [d1, d2] }
  | _ => none }
def FnExactWorstGapWrongFalsely : Prop := fnExactWorstGapRow.holds Try.pinned (OpenSpec.ofChange fnExactWorstGapWrong)

/-- 'laws.FnExactCornerWay': WHATEVER THE INPUT: true; the input reads as it did. -/
def fnExactCornerWaySpec : ChangeSpec := { name := "fnExactCornerWay", fn := fun _ => fun
  | [d1, d2, d3] => { results := [.lit (.bool true)], args := [d1, d2, d3] }
  | _ => none }
def fnExactCornerWayRow : OpenClaim := { program := "ytjjiadjnbpfpdaa", sum := "0990962fa66cd73e86a8ad19ba2cd15c11d51da942be2fa36ee62b801a853144", func := "loop.example/g00991/laws.FnExactCornerWay", spec := "fnExactCornerWay", unfollowed := true, recurses := true, apart := false }
def FnExactCornerWaySaid : Prop := fnExactCornerWayRow.holds Try.pinned (OpenSpec.ofChange fnExactCornerWaySpec)

/-- ITS FALSE NEIGHBOUR: 'it returns false'. Refute it at one input. -/
def fnExactCornerWayWrong : ChangeSpec := { name := "fnExactCornerWay", fn := fun _ => fun
  | [d1, d2, d3] => { results := [.lit (.bool false)], args := [d1, d2, d3] }
  | _ => none }
def FnExactCornerWayWrongFalsely : Prop := fnExactCornerWayRow.holds Try.pinned (OpenSpec.ofChange fnExactCornerWayWrong)

/- THE SECOND FORM. 'bulk': how many values and letters a reading holds, each counted each time it is reached (what is shared counts as often as it is met; a slice's spare places count too). A statement '..UptoSaid' is the law's where the arguments, and the package variables that the reading takes, are together of bulk at most 1048576: NARROWER than '..Said'. Prove '..Said' where nothing that the law and all that it calls make is longer than what came in: it says more and counts as full. Else prove '..UptoSaid'. A law counts once. -/
mutual
def uptoBulk {H : Type} : DataW H → Nat
  | .lit (.string bytes) => bytes.length + 1
  | .lit _ => 1
  | .nil => 1
  | .ptr d => uptoBulk d + 1
  | .slice elems spare => uptoBulkAll elems + uptoBulkAll spare + 1
  | .agg parts => uptoBulkAll parts + 1
  | .iface _ d => uptoBulk d + 1
  | .map entries => uptoBulkEntries entries + 1
  | .held _ => 1
def uptoBulkAll {H : Type} : List (DataW H) → Nat
  | [] => 0
  | d :: r => uptoBulk d + uptoBulkAll r
def uptoBulkEntries {H : Type} : List (Lit × DataW H) → Nat
  | [] => 0
  | x :: r => uptoBulkEntry x + uptoBulkEntries r
def uptoBulkEntry {H : Type} : Lit × DataW H → Nat
  | (.string bytes, d) => bytes.length + uptoBulk d + 1
  | (_, d) => uptoBulk d + 1
 end
def uptoSmall : (H : Type) → List (DataW H) → Bool := fun _ ds => decide (uptoBulkAll ds ≤ 1048576)
def OpenSpec.upto (s : _root_.Go.ChangeSpec) : _root_.Go.OpenSpec := { _root_.Go.OpenSpec.ofChange s with cond := some uptoSmall }

/-- 'laws.FnExactPatrolOk', WHERE WHAT IT READS IS OF BULK AT MOST 1048576: true; the input reads as it did. -/
def fnExactPatrolOkUptoRow : OpenClaim := { program := "ytjjiadjnbpfpdaa", sum := "0990962fa66cd73e86a8ad19ba2cd15c11d51da942be2fa36ee62b801a853144", func := "loop.example/g00991/laws.FnExactPatrolOk", spec := "fnExactPatrolOk", unfollowed := true, recurses := true, apart := false, narrowed := true }
def FnExactPatrolOkUptoSaid : Prop := fnExactPatrolOkUptoRow.holds Try.pinned (OpenSpec.upto fnExactPatrolOkSpec)

/-- 'laws.FnExactLongestGap', WHERE WHAT IT READS IS OF BULK AT MOST 1048576: true; the input reads as it did. -/
def fnExactLongestGapUptoRow : OpenClaim := { program := "ytjjiadjnbpfpdaa", sum := "0990962fa66cd73e86a8ad19ba2cd15c11d51da942be2fa36ee62b801a853144", func := "loop.example/g00991/laws.FnExactLongestGap", spec := "fnExactLongestGap", unfollowed := true, recurses := true, apart := false, narrowed := true }
def FnExactLongestGapUptoSaid : Prop := fnExactLongestGapUptoRow.holds Try.pinned (OpenSpec.upto fnExactLongestGapSpec)

/-- 'laws.FnExactSeenOn', WHERE WHAT IT READS IS OF BULK AT MOST 1048576: true; the input reads as it did. -/
def fnExactSeenOnUptoRow : OpenClaim := { program := "ytjjiadjnbpfpdaa", sum := "0990962fa66cd73e86a8ad19ba2cd15c11d51da942be2fa36ee62b801a853144", func := "loop.example/g00991/laws.FnExactSeenOn", spec := "fnExactSeenOn", unfollowed := true, recurses := true, apart := false, narrowed := true }
def FnExactSeenOnUptoSaid : Prop := fnExactSeenOnUptoRow.holds Try.pinned (OpenSpec.upto fnExactSeenOnSpec)

/-- 'laws.FnExactWatchesAll', WHERE WHAT IT READS IS OF BULK AT MOST 1048576: true; the input reads as it did. -/
def fnExactWatchesAllUptoRow : OpenClaim := { program := "ytjjiadjnbpfpdaa", sum := "0990962fa66cd73e86a8ad19ba2cd15c11d51da942be2fa36ee62b801a853144", func := "loop.example/g00991/laws.FnExactWatchesAll", spec := "fnExactWatchesAll", unfollowed := true, recurses := true, apart := false, narrowed := true }
def FnExactWatchesAllUptoSaid : Prop := fnExactWatchesAllUptoRow.holds Try.pinned (OpenSpec.upto fnExactWatchesAllSpec)

/-- 'laws.FnExactWorstGap', WHERE WHAT IT READS IS OF BULK AT MOST 1048576: true; the input reads as it did. -/
def fnExactWorstGapUptoRow : OpenClaim := { program := "ytjjiadjnbpfpdaa", sum := "0990962fa66cd73e86a8ad19ba2cd15c11d51da942be2fa36ee62b801a853144", func := "loop.example/g00991/laws.FnExactWorstGap", spec := "fnExactWorstGap", unfollowed := true, recurses := true, apart := false, narrowed := true }
def FnExactWorstGapUptoSaid : Prop := fnExactWorstGapUptoRow.holds Try.pinned (OpenSpec.upto fnExactWorstGapSpec)

/-- 'laws.FnExactCornerWay', WHERE WHAT IT READS IS OF BULK AT MOST 1048576: true; the input reads as it did. -/
def fnExactCornerWayUptoRow : OpenClaim := { program := "ytjjiadjnbpfpdaa", sum := "0990962fa66cd73e86a8ad19ba2cd15c11d51da942be2fa36ee62b801a853144", func := "loop.example/g00991/laws.FnExactCornerWay", spec := "fnExactCornerWay", unfollowed := true, recurses := true, apart := false, narrowed := true }
def FnExactCornerWayUptoSaid : Prop := fnExactCornerWayUptoRow.holds Try.pinned (OpenSpec.upto fnExactCornerWaySpec)

end Rows
end Go.Proofs.Ytjjiadjnbpfpdaa
