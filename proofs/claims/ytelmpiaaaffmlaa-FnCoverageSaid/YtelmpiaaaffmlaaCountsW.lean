/- Walks: the reference's counts of cameras at each point of a floor. Conditions: a valid room, points of its floor. -/
import Derived.Test.YtelmpiaaaffmlaaCounts
import Derived.Laws.MakeOwn
namespace Go.Proofs.Ytelmpiaaaffmlaa
open Go.RowKit
set_option linter.unusedVariables false

theorem own_intC {w : World} {base : Nat} {e : TypeId} {g n cap : Nat} {l : List Int} (h : w.ownsRow base e 1 (.slice (some ⟨g, 0, none⟩) n cap) n (l.map (Value.int .i64))) {j : Nat} (hj : j < n) {v : Int} (hv : l[j]? = some v) : w.cell? ⟨g, j, none⟩ = some (.int .i64 v) ∧ w.frozen? ⟨g, j, none⟩ = false := by
  refine ⟨?_, h.frozenAt j⟩
  rw [h.cellAt j (by omega), List.getElem?_map, hv]; rfl
theorem info_intC : (Try.prog.info? 3).map (fun i => (i.zero, i.size, i.bytes)) = some (some (.int .i64 0), 1, 8) := by kernel_rfl
end Go.Proofs.Ytelmpiaaaffmlaa
