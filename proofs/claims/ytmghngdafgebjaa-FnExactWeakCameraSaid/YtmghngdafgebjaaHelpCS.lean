/- Walks of the helpers of the laws: copies, comparisons, marks. No condition but sizes. -/
import Derived.Test.YtmghngdafgebjaaRows
import Derived.Test.YtmghngdafgebjaaRowM
import Derived.Test.YtmghngdafgebjaaPush
import Derived.Test.YtmghngdafgebjaaHelpC
namespace Go.Proofs.Ytmghngdafgebjaa
open Go.RowKit

theorem szCameraS_any (A : Option Addr) (n c : Nat) (left : Int) (w : World) (hn : n ≤ 9223372036854775807) (h1 : left ≤ 1048576) (h0 : 0 ≤ left) :
    Gives Try.prog 17 #[.slice A n c, .int .i64 left] w (.int .i64 (if (n : Int) ≤ left then left - n else -1)) := by
  (unfold Gives; go_enter Try.func17, Try.ntmps17)
  go_wp2_with fail
  all_goals (go_ret; refine ⟨by first | rfl | (go_tidy; simp_all; done) | (go_tidy; simp at *; omega), ?_⟩; repeat (first | exact Ext.refl _ | refine Ext.alloc ?_ _ | assumption | refine Ext.over ?_ _ | refine Ext.drew ?_ | refine Ext.drewN ?_ _))
theorem szCameraS_ok (A : Option Addr) (n c : Nat) (left : Int) (w : World) (hn : (n : Int) ≤ left) (h1 : left ≤ 1048576) :
    Gives Try.prog 17 #[.slice A n c, .int .i64 left] w (.int .i64 (left - n)) := by
  have := szCameraS_any A n c left w (by omega) h1 (by omega)
  rwa [if_pos hn] at this
theorem szCameraS_no (A : Option Addr) (n c : Nat) (left : Int) (w : World) (hn : left < (n : Int)) (hn' : n ≤ 9223372036854775807) (h1 : left ≤ 1048576) (h0 : 0 ≤ left) :
    Gives Try.prog 17 #[.slice A n c, .int .i64 left] w (.int .i64 (-1)) := by
  have := szCameraS_any A n c left w hn' h1 h0
  rwa [if_neg (by omega)] at this
theorem info_Camera : (Try.prog.info? 37).map (fun i => (i.zero, i.size, i.bytes)) = some (some (.agg #[.int .i64 0, .int .i64 0, .int .i64 0, .int .i64 0, .int .i64 0, .int .i64 0, .int .i64 0]), 7, 56) := by kernel_rfl
theorem toCameraS_any (A : Option Addr) (n c : Nat) (l : List T7) (w : World) (hl : Row w A (l.flatMap T7.v)) (hn : l.length = n) (hx : n ≤ 1048577) :
    Calls Try.prog 19 #[.slice A n c] w fun e w' => ∃ A' c', e = .returned (.slice A' n c') ∧ w'.ownsRow w.heap.size 37 7 (.slice A' n c') n (l.flatMap T7.v) ∧ Ext w w' := by
  subst hn
  obtain ⟨i0, hi, hz0, hz1, hz2⟩ := info_parts info_Camera
  go_enter Try.func19, Try.ntmps19
  go_wp2_with (at_make; refine wpList_make_full _ rfl (.tmp 6) (.tmp 6) 45 rfl w.heap.size 37 i0 _ 7 Try.underlying45 hi hz0 hz1 _ _ _ _ l.length rfl rfl rfl rfl (by rw [hz2]; omega) (by unfold maxLen; omega) (Nat.le_refl _) ?_)
  intro w1 hown hg
  have he1 : Ext w w1 := (Below.refl _ _).grown hg (Nat.le_refl _) (by simp)
  have HO := hid hown
  have HE := hid he1
  clear hown he1 hg hz0 hz1 hz2 hi
  go_wp2_with fail
  go_loopw [4] (fun i wr => ∃ (k : Nat) (cs : List Value), k ≤ l.length ∧ i = .int .i64 k ∧ wr.ownsRow w.heap.size 37 7 (.slice (some ⟨w.heap.size, 0, none⟩) l.length l.length) l.length cs ∧ Filled T7.v 7 l k cs ∧ Ext w wr) (fun i _ => l.length - (intOf i).toNat)
  case atStart => exact ⟨0, _, by omega, rfl, HO.out, Filled.zero _ _ _ _, HE.out⟩
  case round =>
    obtain ⟨k, cs, hk, rfl, hown, hfil, he⟩ := hrel
    clear HO HE
    have HO := hid hown
    have HF := hid hfil
    have HE := hid he
    by_cases hlt : k < l.length
    · obtain ⟨b, off, hA, hc⟩ := (hl.ext he).t7 hlt
      subst hA
      obtain ⟨c0, c1, c2, c3, c4, c5, c6⟩ := hc k hlt
      obtain ⟨u0, o0, f0⟩ := own_some hown (k * 7) (by omega)
      obtain ⟨u1, o1, f1⟩ := own_some hown (k * 7 + 1) (by omega)
      obtain ⟨u2, o2, f2⟩ := own_some hown (k * 7 + 2) (by omega)
      obtain ⟨u3, o3, f3⟩ := own_some hown (k * 7 + 3) (by omega)
      obtain ⟨u4, o4, f4⟩ := own_some hown (k * 7 + 4) (by omega)
      obtain ⟨u5, o5, f5⟩ := own_some hown (k * 7 + 5) (by omega)
      obtain ⟨u6, o6, f6⟩ := own_some hown (k * 7 + 6) (by omega)
      clear hc hown hfil he hl
      go_wp2_with (go_at_call 13; refine (toCamera_any _ _ _ _ _ _ _ _).over.mono ?_; rintro e w' ⟨rfl, xw, rfl⟩)
      go_roundw
      case rel =>
        obtain ⟨cs', a1, a2, a3⟩ := own_step7 HO.out HF.out hlt rfl HE.out (Nat.le_refl _) _
        exact ⟨k + 1, cs', by omega, by go_num, a1, a2, a3⟩
      case measure => simp only [intOf]; omega
    · go_wp2_with fail
      go_ret
      obtain rfl : k = l.length := by omega
      have hd := HF.out.done T7.len HO.out.1
      exact ⟨_, _, rfl, hd ▸ HO.out, HE.out⟩
theorem eqCameraS_same (A B : Option Addr) (n c d : Nat) (l : List T7) (w : World) (hl : Row w A (l.flatMap T7.v)) (hl' : Row w B (l.flatMap T7.v)) (hn : l.length = n) (hx : n ≤ 9223372036854775807) :
    Gives Try.prog 21 #[.slice A n c, .slice B n d] w (.bool true) := by
  subst hn
  (unfold Gives; go_enter Try.func21, Try.ntmps21)
  go_wp2_with fail
  go_loopw [5] (fun i wr => ∃ (k : Nat), k ≤ l.length ∧ i = .int .i64 k ∧ Ext w wr) (fun i _ => l.length - (intOf i).toNat)
  case atStart => exact ⟨0, by omega, rfl, Ext.refl _⟩
  case round =>
    obtain ⟨k, hk, rfl, he⟩ := hrel
    have HE := hid he
    by_cases hlt : k < l.length
    · obtain ⟨b, off, hA, hc⟩ := (hl.ext he).t7 hlt
      subst hA
      obtain ⟨c0, c1, c2, c3, c4, c5, c6⟩ := hc k hlt
      obtain ⟨b', off', hB, hc'⟩ := (hl'.ext he).t7 hlt
      subst hB
      obtain ⟨d0, d1, d2, d3, d4, d5, d6⟩ := hc' k hlt
      clear hc hc' he hl hl'
      go_wp2_with fail
      (refine wp_region_calm (by kernel_rfl) (by kernel_rfl) ?_; (repeat (go_big_quiet_step ((go_at_call 43; exact (eqCamera_same _ _ _ _ _ _ _ _).calm)))); refine wpQuiet_nil ?_; rintro w1 ⟨x1, rfl⟩)
      go_wp2_with fail
      go_roundw
      case rel => exact ⟨k + 1, by omega, by go_num, HE.out.over _⟩
      case measure => simp only [intOf]; omega
    · go_wp2_with fail
      go_ret
      exact ⟨rfl, HE.out⟩
end Go.Proofs.Ytmghngdafgebjaa
