/-
  No cell of these rows narrows 'for every input' (looked for: loops, veiled, ifaces, maps, wideKeys, modest, calm, conditions, laid).
  DERIVED. THE GIVEN ROWS OF THIS SEAT. 7 by the template 'for every input the law returns true; each argument reads behind the call as it read before'; 0 by the template 'total and deterministic' (their statements: YtmghngdafgebjaaTotals.lean).
  GIVEN WITH THE SEED: the statements are not yours to turn. If you find one false, say at which input.
  Laid BY PROGRAM, IN A SANDBOX (cutbox-rows.mjs): the forced cells as the released guide's own fill.sh prints them over the translation eb0086f5988249d9… (all of the seat's roots in one cut). By AI agents, Wed Nov 11 2026. No macro, syntax, notation, axiom, sorry.
-/
import Derived.Test.YtmghngdafgebjaaChecked
import GoSem.Claim
import GoSem.ClaimJoined
import GoSem.ClaimMapViews
import Derived.JoinedTies
import Derived.KernelRfl
namespace Go.Proofs.Ytmghngdafgebjaa
/- THE CELL 'sum', in the pinned program and in every row, IS THE sha256 OF THE DUMP (.gsa) THAT YtmghngdafgebjaaProg.lean LOADS. Nothing in Lean hashes anything: it is a label: what it is worth is what the hold of that sum in a sandbox is worth. -/
noncomputable def Try.pinned : Pinned := { name := "ytmghngdafgebjaa", sum := "eb0086f5988249d9fd55f7857a1242e0e103f2cc72e22ed9510af997f28a9f90", checked := Try.checked }
namespace Rows
def none {H : Type} : Left H := { results := [], args := [] }

/-- 'laws.FnExactFilms': WHATEVER THE INPUT: true; the input reads as it did. -/
def fnExactFilmsSpec : ChangeSpec := { name := "fnExactFilms", fn := fun _ => fun
  | [d1, d2, d3] => { results := [.lit (.bool true)], args := [d1, d2, d3] }
  | _ => none }
def fnExactFilmsRow : OpenClaim := { program := "ytmghngdafgebjaa", sum := "eb0086f5988249d9fd55f7857a1242e0e103f2cc72e22ed9510af997f28a9f90", func := "loop.example/g00991/laws.FnExactFilms", spec := "fnExactFilms", unfollowed := true, recurses := true, apart := false }
def FnExactFilmsSaid : Prop := fnExactFilmsRow.holds Try.pinned (OpenSpec.ofChange fnExactFilmsSpec)

/-- ITS FALSE NEIGHBOUR: 'it returns false'. Refute it at one input. -/
def fnExactFilmsWrong : ChangeSpec := { name := "fnExactFilms", fn := fun _ => fun
  | [d1, d2, d3] => { results := [.lit (.bool false)], args := [d1, d2, d3] }
  | _ => none }
def FnExactFilmsWrongFalsely : Prop := fnExactFilmsRow.holds Try.pinned (OpenSpec.ofChange fnExactFilmsWrong)

/-- 'laws.FnExactCountFilming': WHATEVER THE INPUT: true; the input reads as it did. -/
def fnExactCountFilmingSpec : ChangeSpec := { name := "fnExactCountFilming", fn := fun _ => fun
  | [d1, d2, d3] => { results := [.lit (.bool true)], args := [d1, d2, d3] }
  | _ => none }
def fnExactCountFilmingRow : OpenClaim := { program := "ytmghngdafgebjaa", sum := "eb0086f5988249d9fd55f7857a1242e0e103f2cc72e22ed9510af997f28a9f90", func := "loop.example/g00991/laws.FnExactCountFilming", spec := "fnExactCountFilming", unfollowed := true, recurses := true, apart := false }
def FnExactCountFilmingSaid : Prop := fnExactCountFilmingRow.holds Try.pinned (OpenSpec.ofChange fnExactCountFilmingSpec)

/-- ITS FALSE NEIGHBOUR: 'it returns false'. Refute it at one input. -/
def fnExactCountFilmingWrong : ChangeSpec := { name := "fnExactCountFilming", fn := fun _ => fun
  | [d1, d2, d3] => { results := [.lit (.bool false)], args := [d1, d2, d3] }
  | _ => none }
def FnExactCountFilmingWrongFalsely : Prop := fnExactCountFilmingRow.holds Try.pinned (OpenSpec.ofChange fnExactCountFilmingWrong)

/-- 'laws.FnExactFilmedBy': WHATEVER THE INPUT: true; the input reads as it did. -/
def fnExactFilmedBySpec : ChangeSpec := { name := "fnExactFilmedBy", fn := fun _ => fun
  | [d1, d2] => { results := [.lit (.bool true)], args := [d1, d2] }
  | _ => none }
def fnExactFilmedByRow : OpenClaim := { program := "ytmghngdafgebjaa", sum := "eb0086f5988249d9fd55f7857a1242e0e103f2cc72e22ed9510af997f28a9f90", func := "loop.example/g00991/laws.FnExactFilmedBy", spec := "fnExactFilmedBy", unfollowed := true, recurses := true, apart := false }
def FnExactFilmedBySaid : Prop := fnExactFilmedByRow.holds Try.pinned (OpenSpec.ofChange fnExactFilmedBySpec)

/-- ITS FALSE NEIGHBOUR: 'it returns false'. Refute it at one input. -/
def fnExactFilmedByWrong : ChangeSpec := { name := "fnExactFilmedBy", fn := fun _ => fun
  | [d1, d2] => { results := [.lit (.bool false)], args := [d1, d2] }
  | _ => none }
def FnExactFilmedByWrongFalsely : Prop := fnExactFilmedByRow.holds Try.pinned (OpenSpec.ofChange fnExactFilmedByWrong)

/-- 'laws.FnExactBlindPoints': WHATEVER THE INPUT: true; the input reads as it did. -/
def fnExactBlindPointsSpec : ChangeSpec := { name := "fnExactBlindPoints", fn := fun _ => fun
  | [d1, d2] => { results := [.lit (.bool true)], args := [d1, d2] }
  | _ => none }
def fnExactBlindPointsRow : OpenClaim := { program := "ytmghngdafgebjaa", sum := "eb0086f5988249d9fd55f7857a1242e0e103f2cc72e22ed9510af997f28a9f90", func := "loop.example/g00991/laws.FnExactBlindPoints", spec := "fnExactBlindPoints", unfollowed := true, recurses := true, apart := false }
def FnExactBlindPointsSaid : Prop := fnExactBlindPointsRow.holds Try.pinned (OpenSpec.ofChange fnExactBlindPointsSpec)

/-- ITS FALSE NEIGHBOUR: 'it returns false'. Refute it at one input. -/
def fnExactBlindPointsWrong : ChangeSpec := { name := "fnExactBlindPoints", fn := fun _ => fun
  | [d1, d2] => { results := [.lit (.bool false)], args := [d1, d2] }
  | _ => none }
def FnExactBlindPointsWrongFalsely : Prop := fnExactBlindPointsRow.holds Try.pinned (OpenSpec.ofChange fnExactBlindPointsWrong)

/-- 'laws.FnExactLeastFilming': WHATEVER THE INPUT: true; the input reads as it did. -/
def fnExactLeastFilmingSpec : ChangeSpec := { name := "fnExactLeastFilming", fn := fun _ => fun
  | [d1, d2] => { results := [.lit (.bool true)], args := [d1, d2] }
  | _ => none }
def fnExactLeastFilmingRow : OpenClaim := { program := "ytmghngdafgebjaa", sum := "eb0086f5988249d9fd55f7857a1242e0e103f2cc72e22ed9510af997f28a9f90", func := "loop.example/g00991/laws.FnExactLeastFilming", spec := "fnExactLeastFilming", unfollowed := true, recurses := true, apart := false }
def FnExactLeastFilmingSaid : Prop := fnExactLeastFilmingRow.holds Try.pinned (OpenSpec.ofChange fnExactLeastFilmingSpec)

/-- ITS FALSE NEIGHBOUR: 'it returns false'. Refute it at one input. -/
def fnExactLeastFilmingWrong : ChangeSpec := { name := "fnExactLeastFilming", fn := fun _ => fun
  | [d1, d2] => { results := [.lit (.bool false)], args := [d1, d2] }
  | _ => none }
def FnExactLeastFilmingWrongFalsely : Prop := fnExactLeastFilmingRow.holds Try.pinned (OpenSpec.ofChange fnExactLeastFilmingWrong)

/-- 'laws.FnExactIsRobust': WHATEVER THE INPUT: true; the input reads as it did. -/
def fnExactIsRobustSpec : ChangeSpec := { name := "fnExactIsRobust", fn := fun _ => fun
  | [d1, d2, d3] => { results := [.lit (.bool true)], args := [d1, d2, d3] }
  | _ => none }
def fnExactIsRobustRow : OpenClaim := { program := "ytmghngdafgebjaa", sum := "eb0086f5988249d9fd55f7857a1242e0e103f2cc72e22ed9510af997f28a9f90", func := "loop.example/g00991/laws.FnExactIsRobust", spec := "fnExactIsRobust", unfollowed := true, recurses := true, apart := false }
def FnExactIsRobustSaid : Prop := fnExactIsRobustRow.holds Try.pinned (OpenSpec.ofChange fnExactIsRobustSpec)

/-- ITS FALSE NEIGHBOUR: 'it returns false'. Refute it at one input. -/
def fnExactIsRobustWrong : ChangeSpec := { name := "fnExactIsRobust", fn := fun _ => fun
  | [d1, d2, d3] => { results := [.lit (.bool false)], args := [d1, d2, d3] }
  | _ => none }
def FnExactIsRobustWrongFalsely : Prop := fnExactIsRobustRow.holds Try.pinned (OpenSpec.ofChange fnExactIsRobustWrong)

/-- 'laws.FnExactWeakCamera': WHATEVER THE INPUT: true; the input reads as it did. -/
def fnExactWeakCameraSpec : ChangeSpec := { name := "fnExactWeakCamera", fn := fun _ => fun
  | [d1, d2] => { results := [.lit (.bool true)], args := [d1, d2] }
  | _ => none }
def fnExactWeakCameraRow : OpenClaim := { program := "ytmghngdafgebjaa", sum := "eb0086f5988249d9fd55f7857a1242e0e103f2cc72e22ed9510af997f28a9f90", func := "loop.example/g00991/laws.FnExactWeakCamera", spec := "fnExactWeakCamera", unfollowed := true, recurses := true, apart := false }
def FnExactWeakCameraSaid : Prop := fnExactWeakCameraRow.holds Try.pinned (OpenSpec.ofChange fnExactWeakCameraSpec)

/-- ITS FALSE NEIGHBOUR: 'it returns false'. Refute it at one input. -/
def fnExactWeakCameraWrong : ChangeSpec := { name := "fnExactWeakCamera", fn := fun _ => fun
  | [d1, d2] => { results := [.lit (.bool false)], args := [d1, d2] }
  | _ => none }
def FnExactWeakCameraWrongFalsely : Prop := fnExactWeakCameraRow.holds Try.pinned (OpenSpec.ofChange fnExactWeakCameraWrong)

/- THE SECOND FORM. 'bulk': how many values and letters a reading holds, each counted each time it is reached (what is shared counts as often as it is met; a slice's spare places count too). A statement '..UptoSaid' is the law's where the arguments, and the package variables that the reading takes, are together of bulk at most 1048576: NARROWER than '..Said'. Prove '..Said' where nothing that the law and all that it calls make is longer than what came in: it says more and counts as full. Else prove '..UptoSaid'. A law counts once. -/
mutual
def uptoBulk {H : Type} : DataW H → Nat
  | .lit (.string bytes) => bytes.length + 1
  | .lit _ => 1
  | .nil => 1
  | .ptr d => uptoBulk d + 1
  | .slice elems spare => uptoBulkAll elems + uptoBulkAll spare + 1
  | .agg parts => uptoBulkAll parts + 1
  | .iface _ d => uptoBulk d + 1
  | .map entries => uptoBulkEntries entries + 1
  | .held _ => 1
def uptoBulkAll {H : Type} : List (DataW H) → Nat
  | [] => 0
  | d :: r => uptoBulk d + uptoBulkAll r
def uptoBulkEntries {H : Type} : List (Lit × DataW H) → Nat
  | [] => 0
  | x :: r => uptoBulkEntry x + uptoBulkEntries r
def uptoBulkEntry {H : Type} : Lit × DataW H → Nat
  | (.string bytes, d) => bytes.length + uptoBulk d + 1
  | (_, d) => uptoBulk d + 1
 end
def uptoSmall : (H : Type) → List (DataW H) → Bool := fun _ ds => decide (uptoBulkAll ds ≤ 1048576)
def OpenSpec.upto (s : _root_.Go.ChangeSpec) : _root_.Go.OpenSpec := { _root_.Go.OpenSpec.ofChange s with cond := some uptoSmall }

/-- 'laws.FnExactFilms', WHERE WHAT IT READS IS OF BULK AT MOST 1048576: true; the input reads as it did. -/
def fnExactFilmsUptoRow : OpenClaim := { program := "ytmghngdafgebjaa", sum := "eb0086f5988249d9fd55f7857a1242e0e103f2cc72e22ed9510af997f28a9f90", func := "loop.example/g00991/laws.FnExactFilms", spec := "fnExactFilms", unfollowed := true, recurses := true, apart := false, narrowed := true }
def FnExactFilmsUptoSaid : Prop := fnExactFilmsUptoRow.holds Try.pinned (OpenSpec.upto fnExactFilmsSpec)

/-- 'laws.FnExactCountFilming', WHERE WHAT IT READS IS OF BULK AT MOST 1048576: true; the input reads as it did. -/
def fnExactCountFilmingUptoRow : OpenClaim := { program := "ytmghngdafgebjaa", sum := "eb0086f5988249d9fd55f7857a1242e0e103f2cc72e22ed9510af997f28a9f90", func := "loop.example/g00991/laws.FnExactCountFilming", spec := "fnExactCountFilming", unfollowed := true, recurses := true, apart := false, narrowed := true }
def FnExactCountFilmingUptoSaid : Prop := fnExactCountFilmingUptoRow.holds Try.pinned (OpenSpec.upto fnExactCountFilmingSpec)

/-- 'laws.FnExactFilmedBy', WHERE WHAT IT READS IS OF BULK AT MOST 1048576: true; the input reads as it did. -/
def fnExactFilmedByUptoRow : OpenClaim := { program := "ytmghngdafgebjaa", sum := "eb0086f5988249d9fd55f7857a1242e0e103f2cc72e22ed9510af997f28a9f90", func := "loop.example/g00991/laws.FnExactFilmedBy", spec := "fnExactFilmedBy", unfollowed := true, recurses := true, apart := false, narrowed := true }
def FnExactFilmedByUptoSaid : Prop := fnExactFilmedByUptoRow.holds Try.pinned (OpenSpec.upto fnExactFilmedBySpec)

/-- 'laws.FnExactBlindPoints', WHERE WHAT IT READS IS OF BULK AT MOST 1048576: true; the input reads as it did. -/
def fnExactBlindPointsUptoRow : OpenClaim := { program := "ytmghngdafgebjaa", sum := "eb0086f5988249d9fd55f7857a1242e0e103f2cc72e22ed9510af997f28a9f90", func := "loop.example/g00991/laws.FnExactBlindPoints", spec := "fnExactBlindPoints", unfollowed := true, recurses := true, apart := false, narrowed := true }
def FnExactBlindPointsUptoSaid : Prop := fnExactBlindPointsUptoRow.holds Try.pinned (OpenSpec.upto fnExactBlindPointsSpec)

/-- 'laws.FnExactLeastFilming', WHERE WHAT IT READS IS OF BULK AT MOST 1048576: true; the input reads as it did. -/
def fnExactLeastFilmingUptoRow : OpenClaim := { program := "ytmghngdafgebjaa", sum := "eb0086f5988249d9fd55f7857a1242e0e103f2cc72e22ed9510af997f28a9f90", func := "loop.example/g00991/laws.FnExactLeastFilming", spec := "fnExactLeastFilming", unfollowed := true, recurses := true, apart := false, narrowed := true }
def FnExactLeastFilmingUptoSaid : Prop := fnExactLeastFilmingUptoRow.holds Try.pinned (OpenSpec.upto fnExactLeastFilmingSpec)

/-- 'laws.FnExactIsRobust', WHERE WHAT IT READS IS OF BULK AT MOST 1048576: true; the input reads as it did. -/
def fnExactIsRobustUptoRow : OpenClaim := { program := "ytmghngdafgebjaa", sum := "eb0086f5988249d9fd55f7857a1242e0e103f2cc72e22ed9510af997f28a9f90", func := "loop.example/g00991/laws.FnExactIsRobust", spec := "fnExactIsRobust", unfollowed := true, recurses := true, apart := false, narrowed := true }
def FnExactIsRobustUptoSaid : Prop := fnExactIsRobustUptoRow.holds Try.pinned (OpenSpec.upto fnExactIsRobustSpec)

/-- 'laws.FnExactWeakCamera', WHERE WHAT IT READS IS OF BULK AT MOST 1048576: true; the input reads as it did. -/
def fnExactWeakCameraUptoRow : OpenClaim := { program := "ytmghngdafgebjaa", sum := "eb0086f5988249d9fd55f7857a1242e0e103f2cc72e22ed9510af997f28a9f90", func := "loop.example/g00991/laws.FnExactWeakCamera", spec := "fnExactWeakCamera", unfollowed := true, recurses := true, apart := false, narrowed := true }
def FnExactWeakCameraUptoSaid : Prop := fnExactWeakCameraUptoRow.holds Try.pinned (OpenSpec.upto fnExactWeakCameraSpec)

end Rows
end Go.Proofs.Ytmghngdafgebjaa
