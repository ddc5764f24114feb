/- Walks: points on ways, signs, crossing ways. No condition. -/
import Derived.Test.YtkifapcegiajiaaPla
namespace Go.Proofs.Ytkifapcegiajiaa
open Go.RowKit
set_option linter.unusedVariables false

theorem gives_b {P : Program} {f : FuncId} {args : Array Value} {w : World} {p b : Bool} (h : p = b) (g : Gives P f args w (.bool p)) : Gives P f args w (.bool b) := h ▸ g
theorem gives_v {P : Program} {f : FuncId} {args : Array Value} {w : World} {p b : Int} (h : p = b) (g : Gives P f args w (.int .i64 p)) : Gives P f args w (.int .i64 b) := h ▸ g
theorem fresh_cells {w1 w2 : World} {cs : Array Value} {t : TypeId} (e : Ext (w1.alloc (.cells cs t)) w2) {j : Nat} {u : Value} (h : cs[j]? = some u) : w2.cell? ⟨w1.heap.size, j, none⟩ = some u ∧ w2.frozen? ⟨w1.heap.size, j, none⟩ = false := by
  refine ⟨(Below.cell e (by simp)).trans ?_, (Below.frozen e (by simp)).trans ?_⟩
  · rw [World.cell?_alloc_new]; exact h
  · exact World.frozen?_alloc_at _ _ _ _ rfl
theorem old_cell {w1 w2 : World} (e : Ext w1 w2) {a : Addr} {u : Value} (h : w1.cell? a = some u) : w2.cell? a = some u := (Below.cell e (World.block_lt_of_cell? w1 a h)).trans h
theorem old_froz {w1 w2 : World} (e : Ext w1 w2) {a : Addr} {u : Value} (h : w1.cell? a = some u) (hf : w1.frozen? a = false) : w2.frozen? a = false := (Below.frozen e (World.block_lt_of_cell? w1 a h)).trans hf
def ptV (p : T2) : Value := .agg #[.int .i64 p.a, .int .i64 p.b]
theorem min_ite (x y : Int) : min x y = if x < y then x else y := by split <;> omega
theorem max_ite (x y : Int) : max x y = if x < y then y else x := by split <;> omega
theorem onX {p a b : T2} {x1 x2 y1 y2 : Int} (h1 : (turnW a.a a.b b.a b.b p.a p.b == 0) = true) (e1 : min a.a b.a = x1) (e2 : max a.a b.a = x2) (e3 : min a.b b.b = y1) (e4 : max a.b b.b = y2) : onP p a b = (btw p.a x1 x2 && btw p.b y1 y2) := by
  unfold onP turnP; rw [h1, e1, e2, e3, e4, Bool.true_and]
theorem onY {p a b : T2} {x1 x2 : Int} (h1 : (turnW a.a a.b b.a b.b p.a p.b == 0) = true) (e1 : min a.a b.a = x1) (e2 : max a.a b.a = x2) : onP p a b = (btw p.a x1 x2 && btw p.b (min a.b b.b) (max a.b b.b)) := by
  unfold onP turnP; rw [h1, e1, e2, Bool.true_and]
theorem on_any (p a b : T2) (w : World) : Gives Try.prog 86 #[ptV p, ptV a, ptV b] w (.bool (onP p a b)) := by
  unfold ptV
  cases h1 : (turnW a.a a.b b.a b.b p.a p.b == 0)
  · have HC := hid (show onP p a b = false by unfold onP turnP; rw [h1]; rfl)
    (unfold Gives; go_enter Try.func86, Try.ntmps86)
    go_wp2_with (go_at_call 82; refine (iturn_any _ _ _ _ _ _ _).over.mono ?_; rintro e w' ⟨rfl, xw, rfl⟩)
    go_ret
    refine ⟨by rw [HC.out]; rfl, ?_⟩
    repeat (first | exact Ext.refl _ | refine Ext.alloc ?_ _ | assumption | refine Ext.over ?_ _ | refine Ext.drew ?_ | refine Ext.drewN ?_ _)
  · have H1 := hid h1
    (unfold Gives; go_enter Try.func86, Try.ntmps86)
    go_wp2_with (first | (go_at_call 82; refine (iturn_any _ _ _ _ _ _ _).over.mono ?_; rintro e w' ⟨rfl, xw, rfl⟩) | (go_at_call 50; refine (between_any _ _ _ _).over.mono ?_; rintro e w' ⟨rfl, xw, rfl⟩))
    all_goals
      go_ret
      refine ⟨congrArg (fun b => Ending.returned (Value.bool b)) (?_ : _ = onP p a b), ?_⟩
      · first
        | (rw [onY (x1 := a.a) (x2 := b.a) H1.out (by omega) (by omega)]; simp [*]; done)
        | (rw [onX (x1 := a.a) (x2 := b.a) (y1 := a.b) (y2 := b.b) H1.out (by omega) (by omega) (by omega) (by omega)]; simp [*]; done)
        | (rw [onX (x1 := a.a) (x2 := b.a) (y1 := b.b) (y2 := a.b) H1.out (by omega) (by omega) (by omega) (by omega)]; simp [*]; done)
        | (rw [onX (x1 := a.a) (x2 := b.a) (y1 := a.b) (y2 := a.b) H1.out (by omega) (by omega) (by omega) (by omega)]; simp [*]; done)
        | (rw [onX (x1 := a.a) (x2 := b.a) (y1 := b.b) (y2 := b.b) H1.out (by omega) (by omega) (by omega) (by omega)]; simp [*]; done)
        | (rw [onY (x1 := b.a) (x2 := a.a) H1.out (by omega) (by omega)]; simp [*]; done)
        | (rw [onX (x1 := b.a) (x2 := a.a) (y1 := a.b) (y2 := b.b) H1.out (by omega) (by omega) (by omega) (by omega)]; simp [*]; done)
        | (rw [onX (x1 := b.a) (x2 := a.a) (y1 := b.b) (y2 := a.b) H1.out (by omega) (by omega) (by omega) (by omega)]; simp [*]; done)
        | (rw [onX (x1 := b.a) (x2 := a.a) (y1 := a.b) (y2 := a.b) H1.out (by omega) (by omega) (by omega) (by omega)]; simp [*]; done)
        | (rw [onX (x1 := b.a) (x2 := a.a) (y1 := b.b) (y2 := b.b) H1.out (by omega) (by omega) (by omega) (by omega)]; simp [*]; done)
        | (rw [onY (x1 := a.a) (x2 := a.a) H1.out (by omega) (by omega)]; simp [*]; done)
        | (rw [onX (x1 := a.a) (x2 := a.a) (y1 := a.b) (y2 := b.b) H1.out (by omega) (by omega) (by omega) (by omega)]; simp [*]; done)
        | (rw [onX (x1 := a.a) (x2 := a.a) (y1 := b.b) (y2 := a.b) H1.out (by omega) (by omega) (by omega) (by omega)]; simp [*]; done)
        | (rw [onX (x1 := a.a) (x2 := a.a) (y1 := a.b) (y2 := a.b) H1.out (by omega) (by omega) (by omega) (by omega)]; simp [*]; done)
        | (rw [onX (x1 := a.a) (x2 := a.a) (y1 := b.b) (y2 := b.b) H1.out (by omega) (by omega) (by omega) (by omega)]; simp [*]; done)
        | (rw [onY (x1 := b.a) (x2 := b.a) H1.out (by omega) (by omega)]; simp [*]; done)
        | (rw [onX (x1 := b.a) (x2 := b.a) (y1 := a.b) (y2 := b.b) H1.out (by omega) (by omega) (by omega) (by omega)]; simp [*]; done)
        | (rw [onX (x1 := b.a) (x2 := b.a) (y1 := b.b) (y2 := a.b) H1.out (by omega) (by omega) (by omega) (by omega)]; simp [*]; done)
        | (rw [onX (x1 := b.a) (x2 := b.a) (y1 := a.b) (y2 := a.b) H1.out (by omega) (by omega) (by omega) (by omega)]; simp [*]; done)
        | (rw [onX (x1 := b.a) (x2 := b.a) (y1 := b.b) (y2 := b.b) H1.out (by omega) (by omega) (by omega) (by omega)]; simp [*]; done)
      · repeat (first | exact Ext.refl _ | refine Ext.alloc ?_ _ | assumption | refine Ext.over ?_ _ | refine Ext.drew ?_ | refine Ext.drewN ?_ _)
theorem sOn_any (p a b : T2) (w : World) : Gives Try.prog 59 #[ptV p, ptV a, ptV b] w (.bool (onP p a b)) := by
  unfold ptV
  cases h1 : (turnW a.a a.b b.a b.b p.a p.b == 0)
  · have HC := hid (show onP p a b = false by unfold onP turnP; rw [h1]; rfl)
    (unfold Gives; go_enter Try.func59, Try.ntmps59)
    go_wp2_with (go_at_call 76; refine (sturn_any _ _ _ _ _ _ _).over.mono ?_; rintro e w' ⟨rfl, xw, rfl⟩)
    go_ret
    refine ⟨by rw [HC.out]; rfl, ?_⟩
    repeat (first | exact Ext.refl _ | refine Ext.alloc ?_ _ | assumption | refine Ext.over ?_ _ | refine Ext.drew ?_ | refine Ext.drewN ?_ _)
  · have H1 := hid h1
    (unfold Gives; go_enter Try.func59, Try.ntmps59)
    go_wp2_with (first | (go_at_call 76; refine (sturn_any _ _ _ _ _ _ _).over.mono ?_; rintro e w' ⟨rfl, xw, rfl⟩) | (go_at_call 74; refine (l01In_any _ _ _ _).over.mono ?_; rintro e w' ⟨rfl, xw, rfl⟩))
    all_goals
      go_ret
      refine ⟨congrArg (fun b => Ending.returned (Value.bool b)) (?_ : _ = onP p a b), ?_⟩
      · first
        | (rw [onY (x1 := a.a) (x2 := b.a) H1.out (by omega) (by omega)]; simp [*]; done)
        | (rw [onX (x1 := a.a) (x2 := b.a) (y1 := a.b) (y2 := b.b) H1.out (by omega) (by omega) (by omega) (by omega)]; simp [*]; done)
        | (rw [onX (x1 := a.a) (x2 := b.a) (y1 := b.b) (y2 := a.b) H1.out (by omega) (by omega) (by omega) (by omega)]; simp [*]; done)
        | (rw [onX (x1 := a.a) (x2 := b.a) (y1 := a.b) (y2 := a.b) H1.out (by omega) (by omega) (by omega) (by omega)]; simp [*]; done)
        | (rw [onX (x1 := a.a) (x2 := b.a) (y1 := b.b) (y2 := b.b) H1.out (by omega) (by omega) (by omega) (by omega)]; simp [*]; done)
        | (rw [onY (x1 := b.a) (x2 := a.a) H1.out (by omega) (by omega)]; simp [*]; done)
        | (rw [onX (x1 := b.a) (x2 := a.a) (y1 := a.b) (y2 := b.b) H1.out (by omega) (by omega) (by omega) (by omega)]; simp [*]; done)
        | (rw [onX (x1 := b.a) (x2 := a.a) (y1 := b.b) (y2 := a.b) H1.out (by omega) (by omega) (by omega) (by omega)]; simp [*]; done)
        | (rw [onX (x1 := b.a) (x2 := a.a) (y1 := a.b) (y2 := a.b) H1.out (by omega) (by omega) (by omega) (by omega)]; simp [*]; done)
        | (rw [onX (x1 := b.a) (x2 := a.a) (y1 := b.b) (y2 := b.b) H1.out (by omega) (by omega) (by omega) (by omega)]; simp [*]; done)
        | (rw [onY (x1 := a.a) (x2 := a.a) H1.out (by omega) (by omega)]; simp [*]; done)
        | (rw [onX (x1 := a.a) (x2 := a.a) (y1 := a.b) (y2 := b.b) H1.out (by omega) (by omega) (by omega) (by omega)]; simp [*]; done)
        | (rw [onX (x1 := a.a) (x2 := a.a) (y1 := b.b) (y2 := a.b) H1.out (by omega) (by omega) (by omega) (by omega)]; simp [*]; done)
        | (rw [onX (x1 := a.a) (x2 := a.a) (y1 := a.b) (y2 := a.b) H1.out (by omega) (by omega) (by omega) (by omega)]; simp [*]; done)
        | (rw [onX (x1 := a.a) (x2 := a.a) (y1 := b.b) (y2 := b.b) H1.out (by omega) (by omega) (by omega) (by omega)]; simp [*]; done)
        | (rw [onY (x1 := b.a) (x2 := b.a) H1.out (by omega) (by omega)]; simp [*]; done)
        | (rw [onX (x1 := b.a) (x2 := b.a) (y1 := a.b) (y2 := b.b) H1.out (by omega) (by omega) (by omega) (by omega)]; simp [*]; done)
        | (rw [onX (x1 := b.a) (x2 := b.a) (y1 := b.b) (y2 := a.b) H1.out (by omega) (by omega) (by omega) (by omega)]; simp [*]; done)
        | (rw [onX (x1 := b.a) (x2 := b.a) (y1 := a.b) (y2 := a.b) H1.out (by omega) (by omega) (by omega) (by omega)]; simp [*]; done)
        | (rw [onX (x1 := b.a) (x2 := b.a) (y1 := b.b) (y2 := b.b) H1.out (by omega) (by omega) (by omega) (by omega)]; simp [*]; done)
      · repeat (first | exact Ext.refl _ | refine Ext.alloc ?_ _ | assumption | refine Ext.over ?_ _ | refine Ext.drew ?_ | refine Ext.drewN ?_ _)
theorem sign_any (z : Int) (w : World) : Gives Try.prog 88 #[.int .i64 z] w (.int .i64 (sgn z)) := by
  unfold sgn
  (unfold Gives; go_enter Try.func88, Try.ntmps88)
  go_wp2
  all_goals (go_ret; exact ⟨by first | rfl | (simp [*]; done) | (simp; omega), Ext.refl _⟩)
theorem sSign_any (z : Int) (w : World) : Gives Try.prog 85 #[.int .i64 z] w (.int .i64 (sgn z)) := by
  unfold sgn
  (unfold Gives; go_enter Try.func85, Try.ntmps85)
  go_wp2
  all_goals (go_ret; exact ⟨by first | rfl | (simp [*]; done) | (simp; omega), Ext.refl _⟩)
theorem s3Cross_any (a b c d : T2) (w : World) : Gives Try.prog 58 #[ptV a, ptV b, ptV c, ptV d] w (.bool (crossP a b c d)) := by
  unfold ptV
  cases h1 : oppo (turnP a b c) (turnP a b d)
  · have HC := hid (show crossP a b c d = false by unfold crossP; rw [h1]; rfl)
    unfold oppo turnP at h1
    (unfold Gives; go_enter Try.func58, Try.ntmps58)
    go_wp2_with fail
    (refine wp_region_calm (by kernel_rfl) (by kernel_rfl) ?_; (repeat (go_big_quiet_step (first | (go_at_call 76; exact (sturn_any _ _ _ _ _ _ _).calm) | (go_at_call 85; exact (sSign_any _ _).calm)))); refine wpQuiet_nil ?_; rintro w1 ⟨x1, rfl⟩)
    go_wp2_with fail
    go_ret
    refine ⟨by rw [HC.out]; rfl, ?_⟩
    repeat (first | exact Ext.refl _ | refine Ext.alloc ?_ _ | assumption | refine Ext.over ?_ _ | refine Ext.drew ?_ | refine Ext.drewN ?_ _)
  · have HC := hid (show crossP a b c d = oppo (turnP c d a) (turnP c d b) by unfold crossP; rw [h1]; rfl)
    unfold oppo turnP at h1
    (unfold Gives; go_enter Try.func58, Try.ntmps58)
    go_wp2_with fail
    (refine wp_region_calm (by kernel_rfl) (by kernel_rfl) ?_; (repeat (go_big_quiet_step (first | (go_at_call 76; exact (sturn_any _ _ _ _ _ _ _).calm) | (go_at_call 85; exact (sSign_any _ _).calm)))); refine wpQuiet_nil ?_; rintro w1 ⟨x1, rfl⟩)
    go_wp2_with fail
    go_ret
    refine ⟨by rw [HC.out]; unfold oppo turnP; rfl, ?_⟩
    repeat (first | exact Ext.refl _ | refine Ext.alloc ?_ _ | assumption | refine Ext.over ?_ _ | refine Ext.drew ?_ | refine Ext.drewN ?_ _)
def wallV (p q : T2) : Value := .agg #[.int .i64 p.a, .int .i64 p.b, .int .i64 q.a, .int .i64 q.b]
theorem iCross_any (p q r s : T2) (w : World) : Gives Try.prog 66 #[wallV p q, wallV r s] w (.bool (crossP r s p q)) := by
  unfold wallV
  cases h1 : oppo (turnP r s p) (turnP r s q)
  · have HC := hid (show crossP r s p q = false by unfold crossP; rw [h1]; rfl)
    unfold oppo turnP at h1
    (unfold Gives; go_enter Try.func66, Try.ntmps66)
    go_wp2_with fail
    (refine wp_region_calm (by kernel_rfl) (by kernel_rfl) ?_; (repeat (go_big_quiet_step (first | (go_at_call 82; exact (iturn_any _ _ _ _ _ _ _).calm) | (go_at_call 88; exact (sign_any _ _).calm)))); refine wpQuiet_nil ?_; rintro w1 ⟨x1, rfl⟩)
    go_wp2_with fail
    go_ret
    refine ⟨by rw [HC.out]; rfl, ?_⟩
    repeat (first | exact Ext.refl _ | refine Ext.alloc ?_ _ | assumption | refine Ext.over ?_ _ | refine Ext.drew ?_ | refine Ext.drewN ?_ _)
  · have HC := hid (show crossP r s p q = oppo (turnP p q r) (turnP p q s) by unfold crossP; rw [h1]; rfl)
    unfold oppo turnP at h1
    (unfold Gives; go_enter Try.func66, Try.ntmps66)
    go_wp2_with fail
    (refine wp_region_calm (by kernel_rfl) (by kernel_rfl) ?_; (repeat (go_big_quiet_step (first | (go_at_call 82; exact (iturn_any _ _ _ _ _ _ _).calm) | (go_at_call 88; exact (sign_any _ _).calm)))); refine wpQuiet_nil ?_; rintro w1 ⟨x1, rfl⟩)
    go_wp2_with fail
    go_ret
    refine ⟨by rw [HC.out]; unfold oppo turnP; rfl, ?_⟩
    repeat (first | exact Ext.refl _ | refine Ext.alloc ?_ _ | assumption | refine Ext.over ?_ _ | refine Ext.drew ?_ | refine Ext.drewN ?_ _)
end Go.Proofs.Ytkifapcegiajiaa
