/- Walks: points, turns, walls of any size. No condition. -/
import Derived.Test.YtkifapcegiajiaaRows
import Derived.Test.YtkifapcegiajiaaRowM
import Derived.Test.YtkifapcegiajiaaPush
namespace Go.Proofs.Ytkifapcegiajiaa
open Go.RowKit
set_option linter.unusedVariables false

def btw (n lo hi : Int) : Bool := decide (lo ≤ n) && decide (n ≤ hi)
theorem between_any (n lo hi : Int) (w : World) : Gives Try.prog 50 #[.int .i64 n, .int .i64 lo, .int .i64 hi] w (.bool (btw n lo hi)) := by
  unfold btw
  (unfold Gives; go_enter Try.func50, Try.ntmps50)
  go_wp2
  all_goals (go_ret; exact ⟨by first | (simp [*]; done) | (simp; omega), Ext.refl _⟩)
theorem l01In_any (n lo hi : Int) (w : World) : Gives Try.prog 74 #[.int .i64 n, .int .i64 lo, .int .i64 hi] w (.bool (btw n lo hi)) := by
  unfold btw
  (unfold Gives; go_enter Try.func74, Try.ntmps74)
  go_wp2
  all_goals (go_ret; exact ⟨by first | (simp [*]; done) | (simp; omega), Ext.refl _⟩)
theorem btw_iff {n lo hi : Int} : btw n lo hi = true ↔ lo ≤ n ∧ n ≤ hi := by unfold btw; simp
def pok (x y : Int) : Bool := btw x (-40) 40 && btw y (-40) 40
theorem iPointOk_any (x y : Int) (w : World) : Gives Try.prog 61 #[.agg #[.int .i64 x, .int .i64 y]] w (.bool (pok x y)) := by
  unfold pok
  (unfold Gives; go_enter Try.func61, Try.ntmps61)
  go_wp2_with (go_at_call 50; refine (between_any _ _ _ _).over.mono ?_; rintro e w' ⟨rfl, xw, rfl⟩)
  all_goals (go_ret; refine ⟨by first | rfl | (go_tidy; simp_all; done) | (go_tidy; simp at *; omega), ?_⟩; repeat (first | exact Ext.refl _ | refine Ext.alloc ?_ _ | assumption | refine Ext.over ?_ _ | refine Ext.drew ?_ | refine Ext.drewN ?_ _))
theorem sPointOk_any (x y : Int) (w : World) : Gives Try.prog 75 #[.agg #[.int .i64 x, .int .i64 y]] w (.bool (pok x y)) := by
  unfold pok
  (unfold Gives; go_enter Try.func75, Try.ntmps75)
  go_wp2_with (go_at_call 74; refine (l01In_any _ _ _ _).over.mono ?_; rintro e w' ⟨rfl, xw, rfl⟩)
  all_goals (go_ret; refine ⟨by first | rfl | (go_tidy; simp_all; done) | (go_tidy; simp at *; omega), ?_⟩; repeat (first | exact Ext.refl _ | refine Ext.alloc ?_ _ | assumption | refine Ext.over ?_ _ | refine Ext.drew ?_ | refine Ext.drewN ?_ _))
theorem pok_iff {x y : Int} : pok x y = true ↔ (-40 ≤ x ∧ x ≤ 40) ∧ (-40 ≤ y ∧ y ≤ 40) := by unfold pok; simp [btw_iff]
def pokT (p : T2) : Bool := pok p.a p.b
def pokAt (l : List T2) (k : Nat) : Bool := pokT (at2 l k)
def poks (l : List T2) : Bool := allN l.length (pokAt l)
theorem pointsOk_any (A : Option Addr) (n c : Nat) (l : List T2) (w : World) (hl : Row w A (l.flatMap T2.v)) (hn : l.length = n) (hx : n ≤ 9223372036854775807) :
    Gives Try.prog 81 #[.slice A n c] w (.bool (poks l)) := by
  subst hn
  (unfold Gives; go_enter Try.func81, Try.ntmps81)
  go_wp2_with fail
  go_loopw [7] (fun i wr => ∃ (k : Nat), (∀ j, j < k → pokAt l j = true) ∧ k ≤ l.length ∧ i = .int .i64 ↑k ∧ Ext w wr) (fun i _ => (l.length - (intOf i).toNat))
  case atStart => exact ⟨0, by omega, by omega, rfl, Ext.refl _⟩
  case round =>
    obtain ⟨k, hk, hkn, rfl, he⟩ := hrel
    have HK := hid hk
    have HE := hid he
    obtain ⟨x, rfl⟩ := he.ex
    clear hk he
    by_cases hlt : k < l.length
    · obtain ⟨b, off, rfl, hc⟩ := hl.t2 hlt
      obtain ⟨c1, c2⟩ := hc k (by omega)
      clear hc
      have he := HE.out
      cases hf : pok (at2 l k).a (at2 l k).b
      · go_wp2_with (go_at_call 61; refine (iPointOk_any _ _ _).over.mono ?_; rintro e w' ⟨rfl, xw, rfl⟩)
        go_ret
        refine ⟨by rw [poks, allN_false hlt hf]; rfl, ?_⟩
        repeat (first | exact Ext.refl _ | refine Ext.alloc ?_ _ | assumption | refine Ext.over ?_ _ | refine Ext.drew ?_ | refine Ext.drewN ?_ _)
      · go_wp2_with (go_at_call 61; refine (iPointOk_any _ _ _).over.mono ?_; rintro e w' ⟨rfl, xw, rfl⟩)
        go_roundw
        case rel =>
          refine ⟨k + 1, lt_succ_all HK.out hf, by omega, by go_num, ?_⟩
          repeat (first | exact Ext.refl _ | refine Ext.alloc ?_ _ | assumption | refine Ext.over ?_ _ | refine Ext.drew ?_ | refine Ext.drewN ?_ _)
        case measure => simp [intOf]; omega
    · go_wp2_with fail
      go_ret
      refine ⟨?_, HE.out⟩
      rw [poks, allN_true (fun j hj => HK.out j (by omega))]
      rfl
theorem poks_three (a b c : T2) : poks [a, b, c] = (pokT a && pokT b && pokT c) := by
  unfold poks allN pokAt at2; simp [List.range, List.range.loop, Bool.and_assoc]
def turnW (ax ay bx by' cx cy : Int) : Int := wrap64 (wrap64 (wrap64 (bx - ax) * wrap64 (cy - ay)) - wrap64 (wrap64 (by' - ay) * wrap64 (cx - ax)))
theorem iturn_any (ax ay bx by' cx cy : Int) (w : World) : Gives Try.prog 82 #[.agg #[.int .i64 ax, .int .i64 ay], .agg #[.int .i64 bx, .int .i64 by'], .agg #[.int .i64 cx, .int .i64 cy]] w (.int .i64 (turnW ax ay bx by' cx cy)) := by
  (unfold Gives; go_enter Try.func82, Try.ntmps82)
  go_wp2
  go_ret
  refine ⟨rfl, ?_⟩
  repeat (first | exact Ext.refl _ | refine Ext.alloc ?_ _ | assumption | refine Ext.over ?_ _ | refine Ext.drew ?_ | refine Ext.drewN ?_ _)
theorem sturn_any (ax ay bx by' cx cy : Int) (w : World) : Gives Try.prog 76 #[.agg #[.int .i64 ax, .int .i64 ay], .agg #[.int .i64 bx, .int .i64 by'], .agg #[.int .i64 cx, .int .i64 cy]] w (.int .i64 (turnW ax ay bx by' cx cy)) := by
  (unfold Gives; go_enter Try.func76, Try.ntmps76)
  go_wp2
  go_ret
  refine ⟨rfl, ?_⟩
  repeat (first | exact Ext.refl _ | refine Ext.alloc ?_ _ | assumption | refine Ext.over ?_ _ | refine Ext.drew ?_ | refine Ext.drewN ?_ _)
def squareW (ax ay bx by' : Int) : Int := wrap64 (wrap64 (wrap64 (ax - bx) * wrap64 (ax - bx)) + wrap64 (wrap64 (ay - by') * wrap64 (ay - by')))
theorem square_any (ax ay bx by' : Int) (w : World) : Gives Try.prog 91 #[.agg #[.int .i64 ax, .int .i64 ay], .agg #[.int .i64 bx, .int .i64 by']] w (.int .i64 (squareW ax ay bx by')) := by
  (unfold Gives; go_enter Try.func91, Try.ntmps91)
  go_wp2
  go_ret
  refine ⟨rfl, ?_⟩
  repeat (first | exact Ext.refl _ | refine Ext.alloc ?_ _ | assumption | refine Ext.over ?_ _ | refine Ext.drew ?_ | refine Ext.drewN ?_ _)
theorem mul_small {p q : Int} {m : Int} (hp : -m ≤ p ∧ p ≤ m) (hq : -m ≤ q ∧ q ≤ m) : -(m * m) ≤ p * q ∧ p * q ≤ m * m := by
  have hm : 0 ≤ m := by omega
  have h1 : p.natAbs ≤ m.natAbs := by omega
  have h2 : q.natAbs ≤ m.natAbs := by omega
  have h3 : (p * q).natAbs ≤ m.natAbs * m.natAbs := by rw [Int.natAbs_mul]; exact Nat.mul_le_mul h1 h2
  have h4 : (m * m).natAbs = m.natAbs * m.natAbs := Int.natAbs_mul m m
  have h5 : 0 ≤ m * m := Int.mul_nonneg hm hm
  omega
theorem squareW_sym {ax ay bx by' : Int} (ha : pok ax ay = true) (hb : pok bx by' = true) : squareW bx by' ax ay = squareW ax ay bx by' := by
  rw [pok_iff] at ha hb
  unfold squareW
  have h1 := mul_small (p := ax - bx) (q := ax - bx) (m := 80) (by omega) (by omega)
  have h2 := mul_small (p := ay - by') (q := ay - by') (m := 80) (by omega) (by omega)
  have e1 : (bx - ax) * (bx - ax) = (ax - bx) * (ax - bx) := by rw [show bx - ax = -(ax - bx) by omega, Int.neg_mul_neg]
  have e2 : (by' - ay) * (by' - ay) = (ay - by') * (ay - by') := by rw [show by' - ay = -(ay - by') by omega, Int.neg_mul_neg]
  rw [IntWalk.wrap64_in (bx - ax) (by omega), IntWalk.wrap64_in (by' - ay) (by omega), IntWalk.wrap64_in (ax - bx) (by omega), IntWalk.wrap64_in (ay - by') (by omega), e1, e2]
theorem Row.lit (w : World) (g : Nat) (hg : g = w.heap.size) (cs : List Value) (t : TypeId) : Row (w.alloc (.cells cs.toArray t)) (some ⟨g, 0, none⟩) cs := fun _ =>
  ⟨g, 0, rfl, fun j u hu => by
    have := lit_cells w g hg cs t j u hu
    rwa [show (⟨g, 0, none⟩ : Addr).add j = ⟨g, 0 + j, none⟩ from by unfold Addr.add; split <;> simp_all] at this⟩
theorem three_row (w : World) (g : Nat) (hg : g = w.heap.size) (a b c d e f : Int) (t : TypeId) : Row (w.alloc (.cells #[.int .i64 a, .int .i64 b, .int .i64 c, .int .i64 d, .int .i64 e, .int .i64 f] t)) (some ⟨g, 0, none⟩) (([⟨a, b⟩, ⟨c, d⟩, ⟨e, f⟩] : List T2).flatMap T2.v) :=
  Row.lit w g hg [.int .i64 a, .int .i64 b, .int .i64 c, .int .i64 d, .int .i64 e, .int .i64 f] t
end Go.Proofs.Ytkifapcegiajiaa
