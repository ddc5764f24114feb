/- Walks: the reference's sight. Conditions: a valid room. -/
import Derived.Test.YtelmpiaaaffmlaaSeesI
import Derived.Test.YtelmpiaaaffmlaaPushN
namespace Go.Proofs.Ytelmpiaaaffmlaa
open Go.RowKit
set_option linter.unusedVariables false

theorem allN_succ (n : Nat) (p : Nat → Bool) : allN (n + 1) p = (allN n p && p n) := by simp [allN, List.range_succ]
def freeJ (cs : List T2) (i k j : Nat) : Bool := allN j fun j => (j == i) || (j == k) || !onP (at2 cs j) (at2 cs i) (at2 cs k)
theorem sees_cross {L : List T2} {a b : T2} {k : Nat} (hk : k < L.length) (h : crossP a b (at2 L k) (nxt L k) = true) : seesS L a b = false := seesS_cross hk h
end Go.Proofs.Ytelmpiaaaffmlaa
