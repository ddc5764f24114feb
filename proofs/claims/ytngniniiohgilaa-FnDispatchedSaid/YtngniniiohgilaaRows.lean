/-
  No cell of these rows narrows 'for every input' (looked for: loops, veiled, ifaces, maps, wideKeys, modest, calm, conditions, laid).
  DERIVED. THE GIVEN ROWS OF THIS SEAT. 4 by the template 'for every input the law returns true; each argument reads behind the call as it read before'; 0 by the template 'total and deterministic' (their statements: YtngniniiohgilaaTotals.lean).
  GIVEN WITH THE SEED: the statements are not yours to turn. If you find one false, say at which input.
  Laid BY PROGRAM, IN A SANDBOX (cutbox-rows.mjs): the forced cells as the released guide's own fill.sh prints them over the translation fbe2000ab3fa5d5c… (all of the seat's roots in one cut). By AI agents, Wed Nov 11 2026. No macro, syntax, notation, axiom, sorry.
-/
import Derived.Test.YtngniniiohgilaaChecked
import GoSem.Claim
import GoSem.ClaimJoined
import GoSem.ClaimMapViews
import Derived.JoinedTies
import Derived.KernelRfl
namespace Go.Proofs.Ytngniniiohgilaa
/- THE CELL 'sum', in the pinned program and in every row, IS THE sha256 OF THE DUMP (.gsa) THAT YtngniniiohgilaaProg.lean LOADS. Nothing in Lean hashes anything: it is a label: what it is worth is what the hold of that sum in a sandbox is worth. -/
noncomputable def Try.pinned : Pinned := { name := "ytngniniiohgilaa", sum := "fbe2000ab3fa5d5c009f47d64505f721d219685da6ed2f5680c3195e8e7d841f", checked := Try.checked }
namespace Rows
def none {H : Type} : Left H := { results := [], args := [] }

/-- 'laws.FnHouses': WHATEVER THE INPUT: true; the input reads as it did. -/
def fnHousesSpec : ChangeSpec := { name := "fnHouses", fn := fun _ => fun
  | [d] => { results := [.lit (.bool true)], args := [d] }
  | _ => none }
def fnHousesRow : OpenClaim := { program := "ytngniniiohgilaa", sum := "fbe2000ab3fa5d5c009f47d64505f721d219685da6ed2f5680c3195e8e7d841f", func := "loop.example/g00991/laws.FnHouses", spec := "fnHouses", unfollowed := true, recurses := true, apart := false }
def FnHousesSaid : Prop := fnHousesRow.holds Try.pinned (OpenSpec.ofChange fnHousesSpec)

/-- ITS FALSE NEIGHBOUR: 'it returns false'. Refute it at one input. -/
def fnHousesWrong : ChangeSpec := { name := "fnHouses", fn := fun _ => fun
  | [d] => { results := [.lit (.bool false)], args := [d] }
  | _ => none }
def FnHousesWrongFalsely : Prop := fnHousesRow.holds Try.pinned (OpenSpec.ofChange fnHousesWrong)

/-- 'laws.FnSearches': WHATEVER THE INPUT: true; the input reads as it did. -/
def fnSearchesSpec : ChangeSpec := { name := "fnSearches", fn := fun _ => fun
  | [d] => { results := [.lit (.bool true)], args := [d] }
  | _ => none }
def fnSearchesRow : OpenClaim := { program := "ytngniniiohgilaa", sum := "fbe2000ab3fa5d5c009f47d64505f721d219685da6ed2f5680c3195e8e7d841f", func := "loop.example/g00991/laws.FnSearches", spec := "fnSearches", unfollowed := true, recurses := true, apart := false }
def FnSearchesSaid : Prop := fnSearchesRow.holds Try.pinned (OpenSpec.ofChange fnSearchesSpec)

/-- ITS FALSE NEIGHBOUR: 'it returns false'. Refute it at one input. -/
def fnSearchesWrong : ChangeSpec := { name := "fnSearches", fn := fun _ => fun
  | [d] => { results := [.lit (.bool false)], args := [d] }
  | _ => none }
def FnSearchesWrongFalsely : Prop := fnSearchesRow.holds Try.pinned (OpenSpec.ofChange fnSearchesWrong)

/-- 'laws.FnDispatched': WHATEVER THE INPUT: true; the input reads as it did. -/
def fnDispatchedSpec : ChangeSpec := { name := "fnDispatched", fn := fun _ => fun
  | [d] => { results := [.lit (.bool true)], args := [d] }
  | _ => none }
def fnDispatchedRow : OpenClaim := { program := "ytngniniiohgilaa", sum := "fbe2000ab3fa5d5c009f47d64505f721d219685da6ed2f5680c3195e8e7d841f", func := "loop.example/g00991/laws.FnDispatched", spec := "fnDispatched", unfollowed := true, recurses := true, apart := false }
def FnDispatchedSaid : Prop := fnDispatchedRow.holds Try.pinned (OpenSpec.ofChange fnDispatchedSpec)

/-- ITS FALSE NEIGHBOUR: 'it returns false'. Refute it at one input. -/
def fnDispatchedWrong : ChangeSpec := { name := "fnDispatched", fn := fun _ => fun
  | [d] => { results := [.lit (.bool false)], args := [d] }
  | _ => none }
def FnDispatchedWrongFalsely : Prop := fnDispatchedRow.holds Try.pinned (OpenSpec.ofChange fnDispatchedWrong)

/-- 'laws.FnExactBestOrder': WHATEVER THE INPUT: true; the input reads as it did. -/
def fnExactBestOrderSpec : ChangeSpec := { name := "fnExactBestOrder", fn := fun _ => fun
  | [d] => { results := [.lit (.bool true)], args := [d] }
  | _ => none }
def fnExactBestOrderRow : OpenClaim := { program := "ytngniniiohgilaa", sum := "fbe2000ab3fa5d5c009f47d64505f721d219685da6ed2f5680c3195e8e7d841f", func := "loop.example/g00991/laws.FnExactBestOrder", spec := "fnExactBestOrder", unfollowed := true, recurses := true, apart := false }
def FnExactBestOrderSaid : Prop := fnExactBestOrderRow.holds Try.pinned (OpenSpec.ofChange fnExactBestOrderSpec)

/-- ITS FALSE NEIGHBOUR: 'it returns false'. Refute it at one input. -/
def fnExactBestOrderWrong : ChangeSpec := { name := "fnExactBestOrder", fn := fun _ => fun
  | [d] => { results := [.lit (.bool false)], args := [d] }
  | _ => none }
def FnExactBestOrderWrongFalsely : Prop := fnExactBestOrderRow.holds Try.pinned (OpenSpec.ofChange fnExactBestOrderWrong)

/- THE SECOND FORM. 'bulk': how many values and letters a reading holds, each counted each time it is reached (what is shared counts as often as it is met; a slice's spare places count too). A statement '..UptoSaid' is the law's where the arguments, and the package variables that the reading takes, are together of bulk at most 1048576: NARROWER than '..Said'. Prove '..Said' where nothing that the law and all that it calls make is longer than what came in: it says more and counts as full. Else prove '..UptoSaid'. A law counts once. -/
mutual
def uptoBulk {H : Type} : DataW H → Nat
  | .lit (.string bytes) => bytes.length + 1
  | .lit _ => 1
  | .nil => 1
  | .ptr d => uptoBulk d + 1
  | .slice elems spare => uptoBulkAll elems + uptoBulkAll spare + 1
  | .agg parts => uptoBulkAll parts + 1
  | .iface _ d => uptoBulk d + 1
  | .map entries => uptoBulkEntries entries + 1
  | .held _ => 1
def uptoBulkAll {H : Type} : List (DataW H) → Nat
  | [] => 0
  | d :: r => uptoBulk d + uptoBulkAll r
def uptoBulkEntries {H : Type} : List (Lit × DataW H) → Nat
  | [] => 0
  | x :: r => uptoBulkEntry x + uptoBulkEntries r
def uptoBulkEntry {H : Type} : Lit × DataW H → Nat
  | (.string bytes, d) => bytes.length + uptoBulk d + 1
  | (_, d) => uptoBulk d + 1
 end
def uptoSmall : (H : Type) → List (DataW H) → Bool := fun _ ds => decide (uptoBulkAll ds ≤ 1048576)
def OpenSpec.upto (s : _root_.Go.ChangeSpec) : _root_.Go.OpenSpec := { _root_.Go.OpenSpec.ofChange s with cond := some uptoSmall }

/-- 'laws.FnHouses', WHERE WHAT IT READS IS OF BULK AT MOST 1048576: true; the input reads as it did. -/
def fnHousesUptoRow : OpenClaim := { program := "ytngniniiohgilaa", sum := "fbe2000ab3fa5d5c009f47d64505f721d219685da6ed2f5680c3195e8e7d841f", func := "loop.example/g00991/laws.FnHouses", spec := "fnHouses", unfollowed := true, recurses := true, apart := false, narrowed := true }
def FnHousesUptoSaid : Prop := fnHousesUptoRow.holds Try.pinned (OpenSpec.upto fnHousesSpec)

/-- 'laws.FnSearches', WHERE WHAT IT READS IS OF BULK AT MOST 1048576: true; the input reads as it did. -/
def fnSearchesUptoRow : OpenClaim := { program := "ytngniniiohgilaa", sum := "fbe2000ab3fa5d5c009f47d64505f721d219685da6ed2f5680c3195e8e7d841f", func := "loop.example/g00991/laws.FnSearches", spec := "fnSearches", unfollowed := true, recurses := true, apart := false, narrowed := true }
def FnSearchesUptoSaid : Prop := fnSearchesUptoRow.holds Try.pinned (OpenSpec.upto fnSearchesSpec)

/-- 'laws.FnDispatched', WHERE WHAT IT READS IS OF BULK AT MOST 1048576: true; the input reads as it did. -/
def fnDispatchedUptoRow : OpenClaim := { program := "ytngniniiohgilaa", sum := "fbe2000ab3fa5d5c009f47d64505f721d219685da6ed2f5680c3195e8e7d841f", func := "loop.example/g00991/laws.FnDispatched", spec := "fnDispatched", unfollowed := true, recurses := true, apart := false, narrowed := true }
def FnDispatchedUptoSaid : Prop := fnDispatchedUptoRow.holds Try.pinned (OpenSpec.upto fnDispatchedSpec)

/-- 'laws.FnExactBestOrder', WHERE WHAT IT READS IS OF BULK AT MOST 1048576: true; the input reads as it did. -/
def fnExactBestOrderUptoRow : OpenClaim := { program := "ytngniniiohgilaa", sum := "fbe2000ab3fa5d5c009f47d64505f721d219685da6ed2f5680c3195e8e7d841f", func := "loop.example/g00991/laws.FnExactBestOrder", spec := "fnExactBestOrder", unfollowed := true, recurses := true, apart := false, narrowed := true }
def FnExactBestOrderUptoSaid : Prop := fnExactBestOrderUptoRow.holds Try.pinned (OpenSpec.upto fnExactBestOrderSpec)

end Rows
end Go.Proofs.Ytngniniiohgilaa
