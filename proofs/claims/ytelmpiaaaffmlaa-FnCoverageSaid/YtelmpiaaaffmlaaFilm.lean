/- Walks: Films, both. Conditions: at most 1048577 corners. -/
import Derived.Test.YtelmpiaaaffmlaaSeeB
import Derived.Test.YtelmpiaaaffmlaaCam
namespace Go.Proofs.Ytelmpiaaaffmlaa
open Go.RowKit
set_option linter.unusedVariables false

def camAt (x : T7) : T2 := ⟨x.a, x.b⟩
def filmR (L : List T2) (x : T7) (p : T2) : Bool := inFld x p.a p.b && seeR L (camAt x) p
set_option maxRecDepth 100000 in
theorem iFilms_any (A : Option Addr) (n c : Nat) (L : List T2) (x : T7) (p : T2) (w : World) (hl : Row w A (L.flatMap T2.v)) (hn : L.length = n) (hx : n ≤ 1048577) : Gives Try.prog 9 #[.agg #[.slice A n c], camV x, ptV p] w (.bool (filmR L x p)) := by
  have HS := hid (fun w' (h : Row w' A (L.flatMap T2.v)) => iSees_any A n c L (camAt x) p w' h hn hx)
  have HF := hid (fun w' => iInField_any x p.a p.b w')
  unfold ptV camAt at HS
  unfold camV at HF
  unfold ptV camV
  cases h1 : inFld x p.a p.b
  all_goals
    have HC := hid (show filmR L x p = _ by unfold filmR; rw [h1])
    (unfold Gives; go_enter Try.func9, Try.ntmps9)
    go_wp2_with (first | (go_at_call 11; refine (gives_b h1 (HF.out _)).over.mono ?_; rintro e w' ⟨rfl, xw, rfl⟩) | (go_at_call 10; refine (HS.out _ (hl.ext (by repeat (first | exact Ext.refl _ | refine Ext.alloc ?_ _ | assumption | refine Ext.over ?_ _ | refine Ext.drew ?_ | refine Ext.drewN ?_ _)))).over.mono ?_; rintro e w' ⟨rfl, xw, rfl⟩))
    go_ret
    exact ⟨by rw [HC.out]; first | rfl | simp, by repeat (first | exact Ext.refl _ | refine Ext.alloc ?_ _ | assumption | refine Ext.over ?_ _ | refine Ext.drew ?_ | refine Ext.drewN ?_ _)⟩
theorem iFilms_at (A : Option Addr) (n c : Nat) (L : List T2) (xa xb xc xd xe xf xg pa pb : Int) (w : World) (hl : Row w A (L.flatMap T2.v)) (hn : L.length = n) (hx : n ≤ 1048577) : Gives Try.prog 9 #[.agg #[.slice A n c], .agg #[.int .i64 xa, .int .i64 xb, .int .i64 xc, .int .i64 xd, .int .i64 xe, .int .i64 xf, .int .i64 xg], .agg #[.int .i64 pa, .int .i64 pb]] w (.bool (filmR L ⟨xa, xb, xc, xd, xe, xf, xg⟩ ⟨pa, pb⟩)) :=
  iFilms_any A n c L ⟨xa, xb, xc, xd, xe, xf, xg⟩ ⟨pa, pb⟩ w hl hn hx
end Go.Proofs.Ytelmpiaaaffmlaa
