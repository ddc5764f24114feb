/- Walks: the form of a house; doors. Conditions: sizes. -/
import Derived.Test.YtngniniiohgilaaRows
import Derived.Test.YtngniniiohgilaaRowM
import Derived.Test.YtngniniiohgilaaPush
namespace Go.Proofs.Ytngniniiohgilaa
open Go.RowKit
set_option linter.unusedVariables false

def btw (n lo hi : Int) : Bool := decide (lo ≤ n) && decide (n ≤ hi)
theorem between_any (n lo hi : Int) (w : World) : Gives Try.prog 51 #[.int .i64 n, .int .i64 lo, .int .i64 hi] w (.bool (btw n lo hi)) := by
  unfold btw
  (unfold Gives; go_enter Try.func51, Try.ntmps51)
  go_wp2
  all_goals (go_ret; exact ⟨by first | (simp [*]; done) | (simp; omega), Ext.refl _⟩)
theorem l01In_any (n lo hi : Int) (w : World) : Gives Try.prog 79 #[.int .i64 n, .int .i64 lo, .int .i64 hi] w (.bool (btw n lo hi)) := by
  unfold btw
  (unfold Gives; go_enter Try.func79, Try.ntmps79)
  go_wp2
  all_goals (go_ret; exact ⟨by first | (simp [*]; done) | (simp; omega), Ext.refl _⟩)
theorem btw_iff {n lo hi : Int} : btw n lo hi = true ↔ lo ≤ n ∧ n ≤ hi := by unfold btw; simp
theorem gives_b {P : Program} {f : FuncId} {args : Array Value} {w : World} {p b : Bool} (h : p = b) (g : Gives P f args w (.bool p)) : Gives P f args w (.bool b) := h ▸ g
def lexBad (l : List T2) : Nat → Bool
  | 0 => false
  | k + 1 => decide ((at2 l (k + 1)).a < (at2 l k).a) || ((at2 l k).a == (at2 l (k + 1)).a && decide ((at2 l (k + 1)).b ≤ (at2 l k).b))
def badD (h : Int) (d : T2) : Bool := decide (d.a < 0) || (decide (d.b ≤ d.a) || decide (h ≤ d.b))
def doorAt (h : Int) (l : List T2) (k : Nat) : Bool := !badD h (at2 l k) && !lexBad l k
def doorsOk (h : Int) (l : List T2) : Bool := allN l.length (doorAt h l)
def form (h : Int) (l : List T2) : Bool := doorsOk h l && (btw h 1 7 && decide (l.length ≤ 12))
theorem doorAt_bad {h : Int} {l : List T2} {k : Nat} (g : badD h (at2 l k) = true) : doorAt h l k = false := by unfold doorAt; rw [g]; rfl
theorem doorAt_lex {h : Int} {l : List T2} {k : Nat} (g : lexBad l k = true) : doorAt h l k = false := by unfold doorAt; rw [g]; simp
theorem doorAt_ok {h : Int} {l : List T2} {k : Nat} (g : badD h (at2 l k) = false) (g' : lexBad l k = false) : doorAt h l k = true := by unfold doorAt; rw [g, g']; rfl
theorem form_doors {h : Int} {l : List T2} {k : Nat} (hk : k < l.length) (g : doorAt h l k = false) : form h l = false := by unfold form doorsOk; rw [allN_false hk g]; rfl
set_option maxHeartbeats 3200000 in
set_option maxRecDepth 100000 in
theorem l23Form_any (h : Int) (A : Option Addr) (n c : Nat) (l : List T2) (w : World) (hl : Row w A (l.flatMap T2.v)) (hn : l.length = n) (hx : n ≤ 1048577) :
    Gives Try.prog 82 #[.agg #[.int .i64 h, .slice A n c]] w (.bool (form h l)) := by
  subst hn
  (unfold Gives; go_enter Try.func82, Try.ntmps82)
  go_wp2_with fail
  go_loopw [3] (fun i wr => ∃ (k : Nat), (∀ j, j < k → doorAt h l j = true) ∧ k ≤ l.length ∧ i = .int .i64 ↑k ∧ Ext w wr ∧ wr.cell? ⟨w.heap.size, 0, none⟩ = some (.int .i64 h) ∧ wr.cell? ⟨w.heap.size, 1, none⟩ = some (.slice A l.length c)) (fun i _ => (l.length - (intOf i).toNat))
  case atStart => exact ⟨0, by omega, by omega, rfl, by repeat (first | exact Ext.refl _ | refine Ext.alloc ?_ _ | assumption | refine Ext.over ?_ _ | refine Ext.drew ?_ | refine Ext.drewN ?_ _), by go_simp, by go_simp⟩
  case round =>
    obtain ⟨k, hk, hkn, rfl, he, b0, b1⟩ := hrel
    have HK := hid hk
    have HE := hid he
    have HR := hid (hl.ext he)
    clear hk he hl
    by_cases hlt : k < l.length
    · obtain ⟨b, off, hA, hc⟩ := HR.out.t2 hlt
      subst hA
      obtain ⟨c1, c2⟩ := hc k hlt
      cases g1 : decide ((at2 l k).a < 0)
      rotate_left
      · have HB := hid (form_doors (h := h) hlt (doorAt_bad (by unfold badD; rw [g1]; rfl)))
        clear hc
        go_wp2_with fail
        go_ret
        exact ⟨by rw [HB.out]; rfl, HE.out.trans (by repeat (first | exact Ext.refl _ | refine Ext.alloc ?_ _ | assumption | refine Ext.over ?_ _ | refine Ext.drew ?_ | refine Ext.drewN ?_ _))⟩
      cases g2 : decide ((at2 l k).b ≤ (at2 l k).a)
      rotate_left
      · have HB := hid (form_doors (h := h) hlt (doorAt_bad (by unfold badD; rw [g2]; simp)))
        clear hc
        go_wp2_with fail
        go_ret
        exact ⟨by rw [HB.out]; rfl, HE.out.trans (by repeat (first | exact Ext.refl _ | refine Ext.alloc ?_ _ | assumption | refine Ext.over ?_ _ | refine Ext.drew ?_ | refine Ext.drewN ?_ _))⟩
      cases g3 : decide (h ≤ (at2 l k).b)
      rotate_left
      · have HB := hid (form_doors (h := h) hlt (doorAt_bad (by unfold badD; rw [g3]; simp)))
        clear hc
        go_wp2_with fail
        go_ret
        exact ⟨by rw [HB.out]; rfl, HE.out.trans (by repeat (first | exact Ext.refl _ | refine Ext.alloc ?_ _ | assumption | refine Ext.over ?_ _ | refine Ext.drew ?_ | refine Ext.drewN ?_ _))⟩
      have hbad : badD h (at2 l k) = false := by unfold badD; rw [g1, g2, g3]; rfl
      rcases k with _ | j
      · have HB := hid (doorAt_ok hbad (show lexBad l 0 = false from rfl))
        simp only [Nat.zero_mul, Nat.add_zero] at c1 c2
        clear hc hbad
        go_wp2_with fail
        (refine wp_region_calm (by kernel_rfl) (by kernel_rfl) ?_; (repeat (go_big_quiet_step (fail))); refine wpQuiet_nil ?_; rintro w1 ⟨x1, rfl⟩)
        go_wp2_with fail
        go_roundw
        case rel => exact ⟨1, lt_succ_all HK.out HB.out, by omega, rfl, HE.out.trans (by repeat (first | exact Ext.refl _ | refine Ext.alloc ?_ _ | assumption | refine Ext.over ?_ _ | refine Ext.drew ?_ | refine Ext.drewN ?_ _)), by go_simp, by go_simp⟩
        case measure => simp [intOf]; omega
      · obtain ⟨d1, d2⟩ := hc j (by omega)
        clear hc
        cases g4 : decide ((at2 l (j + 1)).a < (at2 l j).a)
        rotate_left
        · have HB := hid (form_doors (h := h) hlt (doorAt_lex (by show (decide _ || _) = true; rw [g4]; rfl)))
          clear hbad
          go_wp2_with fail
          (refine wp_region_calm (by kernel_rfl) (by kernel_rfl) ?_; (repeat (go_big_quiet_step (fail))); refine wpQuiet_nil ?_; rintro w1 ⟨x1, rfl⟩)
          go_wp2_with fail
          go_ret
          exact ⟨by rw [HB.out]; rfl, HE.out.trans (by repeat (first | exact Ext.refl _ | refine Ext.alloc ?_ _ | assumption | refine Ext.over ?_ _ | refine Ext.drew ?_ | refine Ext.drewN ?_ _))⟩
        cases g5 : ((at2 l j).a == (at2 l (j + 1)).a)
        · have g5' : ((at2 l (j + 1)).a == (at2 l j).a) = false := by rw [← g5]; exact Bool.beq_comm
          have HB := hid (doorAt_ok hbad (show lexBad l (j + 1) = false by show (decide _ || (_ && _)) = false; rw [g4, g5]; rfl))
          clear hbad
          go_wp2_with fail
          (refine wp_region_calm (by kernel_rfl) (by kernel_rfl) ?_; (repeat (go_big_quiet_step (fail))); refine wpQuiet_nil ?_; rintro w1 ⟨x1, rfl⟩)
          go_wp2_with fail
          go_roundw
          case rel => exact ⟨j + 1 + 1, lt_succ_all HK.out HB.out, by omega, by go_num, HE.out.trans (by repeat (first | exact Ext.refl _ | refine Ext.alloc ?_ _ | assumption | refine Ext.over ?_ _ | refine Ext.drew ?_ | refine Ext.drewN ?_ _)), by go_simp, by go_simp⟩
          case measure => simp [intOf]; omega
        have g5' : ((at2 l (j + 1)).a == (at2 l j).a) = true := by rw [← g5]; exact Bool.beq_comm
        cases g6 : decide ((at2 l (j + 1)).b ≤ (at2 l j).b)
        · have HB := hid (doorAt_ok hbad (show lexBad l (j + 1) = false by show (decide _ || (_ && _)) = false; rw [g4, g6]; simp))
          clear hbad
          go_wp2_with fail
          (refine wp_region_calm (by kernel_rfl) (by kernel_rfl) ?_; (repeat (go_big_quiet_step (fail))); refine wpQuiet_nil ?_; rintro w1 ⟨x1, rfl⟩)
          go_wp2_with fail
          go_roundw
          case rel => exact ⟨j + 1 + 1, lt_succ_all HK.out HB.out, by omega, by go_num, HE.out.trans (by repeat (first | exact Ext.refl _ | refine Ext.alloc ?_ _ | assumption | refine Ext.over ?_ _ | refine Ext.drew ?_ | refine Ext.drewN ?_ _)), by go_simp, by go_simp⟩
          case measure => simp [intOf]; omega
        · have HB := hid (form_doors (h := h) hlt (doorAt_lex (by show (decide _ || (_ && _)) = true; rw [g5, g6]; simp)))
          clear hbad
          go_wp2_with fail
          (refine wp_region_calm (by kernel_rfl) (by kernel_rfl) ?_; (repeat (go_big_quiet_step (fail))); refine wpQuiet_nil ?_; rintro w1 ⟨x1, rfl⟩)
          go_wp2_with fail
          go_ret
          exact ⟨by rw [HB.out]; rfl, HE.out.trans (by repeat (first | exact Ext.refl _ | refine Ext.alloc ?_ _ | assumption | refine Ext.over ?_ _ | refine Ext.drew ?_ | refine Ext.drewN ?_ _))⟩
    · have hall : doorsOk h l = true := allN_true (fun j hj => HK.out j (by omega))
      cases g1 : btw h 1 7
      · have HB := hid (show form h l = false by unfold form; rw [g1]; simp)
        go_wp2_with (go_at_call 79; refine (l01In_any _ _ _ _).over.mono ?_; rintro e w' ⟨rfl, xw, rfl⟩)
        go_ret
        exact ⟨by rw [HB.out]; rfl, HE.out.trans (by repeat (first | exact Ext.refl _ | refine Ext.alloc ?_ _ | assumption | refine Ext.over ?_ _ | refine Ext.drew ?_ | refine Ext.drewN ?_ _))⟩
      · cases h12 : decide ((l.length : Int) ≤ 12)
        rotate_left
        · have HB := hid (show form h l = true by unfold form; rw [g1, hall, decide_eq_true (show l.length ≤ 12 by simp at h12; omega)]; rfl)
          clear hall
          go_wp2_with (go_at_call 79; refine (l01In_any _ _ _ _).over.mono ?_; rintro e w' ⟨rfl, xw, rfl⟩)
          go_ret
          exact ⟨by rw [HB.out]; rfl, HE.out.trans (by repeat (first | exact Ext.refl _ | refine Ext.alloc ?_ _ | assumption | refine Ext.over ?_ _ | refine Ext.drew ?_ | refine Ext.drewN ?_ _))⟩
        · have HB := hid (show form h l = false by unfold form; rw [decide_eq_false (show ¬ l.length ≤ 12 by simp at h12; omega)]; simp)
          clear hall
          go_wp2_with (go_at_call 79; refine (l01In_any _ _ _ _).over.mono ?_; rintro e w' ⟨rfl, xw, rfl⟩)
          go_ret
          exact ⟨by rw [HB.out]; rfl, HE.out.trans (by repeat (first | exact Ext.refl _ | refine Ext.alloc ?_ _ | assumption | refine Ext.over ?_ _ | refine Ext.drew ?_ | refine Ext.drewN ?_ _))⟩

/-! ### Doors -/
def isD (d : T2) (a b : Int) : Bool := d.a == min a b && d.b == max a b
def hasD (l : List T2) (a b : Int) : Bool := l.any fun d => isD d a b
theorem isD_symm (d : T2) (a b : Int) : isD d a b = isD d b a := by unfold isD; rw [Int.min_comm, Int.max_comm]
theorem hasD_symm (l : List T2) (a b : Int) : hasD l a b = hasD l b a := by unfold hasD; congr 1; funext d; exact isD_symm d a b
theorem any_take {l : List T2} {p : T2 → Bool} {k : Nat} (h : k < l.length) : (l.take (k + 1)).any p = ((l.take k).any p || p (at2 l k)) := by
  rw [List.take_succ_eq_append_getElem h, List.any_append, at2_eq _ _ h]; simp
end Go.Proofs.Ytngniniiohgilaa
