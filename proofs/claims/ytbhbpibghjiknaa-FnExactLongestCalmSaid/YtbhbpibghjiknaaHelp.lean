/- Walks of the helpers of the laws: copies, comparisons, marks. No condition but sizes. -/
import Derived.Test.YtbhbpibghjiknaaRows
import Derived.Test.YtbhbpibghjiknaaRowM
namespace Go.Proofs.Ytbhbpibghjiknaa
open Go.RowKit

/-! ### Slices of integers -/
theorem eqIntS_same (A B : Option Addr) (n c d : Nat) (l : List Int) (w : World) (hl : Row w A (l.map (Value.int .i64))) (hl' : Row w B (l.map (Value.int .i64))) (hn : l.length = n) (hx : n ≤ 9223372036854775807) :
    Gives Try.prog 46 #[.slice A n c, .slice B n d] w (.bool true) := by
  subst hn
  (unfold Gives; go_enter Try.func46, Try.ntmps46)
  go_wp2_with fail
  go_loopw [5] (fun i wr => ∃ (k : Nat), k ≤ l.length ∧ i = .int .i64 k ∧ Ext w wr) (fun i _ => l.length - (intOf i).toNat)
  case atStart => exact ⟨0, by omega, rfl, Ext.refl _⟩
  case round =>
    obtain ⟨k, hk, rfl, he⟩ := hrel
    have HE := hid he
    by_cases hlt : k < l.length
    · obtain ⟨b, off, hA, hc⟩ := (hl.ext he).ints hlt
      subst hA
      have c0 := hc k hlt
      obtain ⟨b', off', hB, hc'⟩ := (hl'.ext he).ints hlt
      subst hB
      have d0 := hc' k hlt
      clear hc hc' he hl hl'
      go_wp2_with fail
      (refine wp_region_calm (by kernel_rfl) (by kernel_rfl) ?_; (repeat (go_big_quiet_step (fail))); refine wpQuiet_nil ?_; rintro w1 ⟨x1, rfl⟩)
      go_wp2_with fail
      go_roundw
      case rel => exact ⟨k + 1, by omega, by go_num, HE.out.over _⟩
      case measure => simp only [intOf]; omega
    · go_wp2_with fail
      go_ret
      exact ⟨rfl, HE.out⟩
def marks (q : Int) (n : Nat) : List Int := (List.range n).map fun (j : Nat) => q + (j : Int)
theorem marks_len (q : Int) (n : Nat) : (marks q n).length = n := by simp [marks]
theorem marks_at (q : Int) (n j : Nat) (h : j < n) : atI (marks q n) j = q + j := by simp [atI, marks, List.getD, h]
theorem markIntS_any (A : Option Addr) (n c base : Nat) (cs : List Value) (q : Int) (w : World) (hown : w.ownsRow base 3 1 (.slice A n c) n cs) (hx : n ≤ 8388608) (hq : 0 ≤ q) (hq' : q ≤ 100000000) :
    Calls Try.prog 50 #[.slice A n c, .int .i64 q] w fun e w' => e = .returned (.int .i64 (q + n)) ∧ w.grownBy w' (Value.slice A n c).ownBlock ∧ w'.heap.size = w.heap.size ∧ w'.ownsRow base 3 1 (.slice A n c) n ((marks q n).map (Value.int .i64)) := by
  go_enter Try.func50, Try.ntmps50
  have HO := hid hown
  clear hown
  go_wp2_with fail
  go_loopw [1, 5] (fun q' i wr => ∃ (k : Nat) (cs : List Value), k ≤ n ∧ i = .int .i64 k ∧ q' = .int .i64 (q + k) ∧ wr.ownsRow base 3 1 (.slice A n c) n cs ∧ w.grownBy wr (Value.slice A n c).ownBlock ∧ wr.heap.size = w.heap.size ∧ (∀ j, j < k → cs[j]? = some (.int .i64 (q + (j : Int))))) (fun _ i _ => n - (intOf i).toNat)
  case atStart => exact ⟨0, cs, by omega, rfl, by simp, HO.out, World.grownBy.refl _ _, rfl, by omega⟩
  case round =>
    obtain ⟨k, cs, hk, rfl, rfl, hown, hgr, hsz, hcs⟩ := hrel
    clear HO
    have HO := hid hown
    have HG := hid hgr
    have HS := hid hsz
    have HC := hid hcs
    by_cases hlt : k < n
    · obtain ⟨g, hA⟩ := own_addr hown (by omega)
      subst hA
      obtain ⟨u0, o0, f0⟩ := own_some hown k (by omega)
      clear hown hgr hsz hcs
      go_wp2_with fail
      go_roundw
      case rel =>
        have hl := HO.out.1
        refine ⟨k + 1, cs.set k (.int .i64 (q + k)), by omega, by go_num, by go_num, ?_, ?_, ?_, ?_⟩
        · exact (HO.out.stored _ _).1
        · exact only_row HG.out _ _
        · simpa using HS.out
        · intro j hj
          rcases Nat.lt_or_ge j k with h | h
          · rw [List.getElem?_set_ne (by omega)]; exact HC.out j h
          · obtain rfl : j = k := by omega
            rw [List.getElem?_set_self (by omega)]
      case measure => simp only [intOf]; omega
    · go_wp2_with fail
      go_ret
      obtain rfl : k = n := by omega
      refine ⟨rfl, HG.out, HS.out, ?_⟩
      have e : cs = (marks q k).map (Value.int .i64) := by
        apply List.ext_getElem?
        intro j
        rcases Nat.lt_or_ge j k with h | h
        · rw [HC.out j h]; simp [marks, h]
        · have hl := HO.out.1
          rw [List.getElem?_eq_none (by omega), List.getElem?_eq_none (by simp [marks]; omega)]
      rw [← e]; exact HO.out
theorem heldIntS_ok (A : Option Addr) (n c : Nat) (q : Int) (w : World) (hl : Row w A ((marks q n).map (Value.int .i64))) (hx : n ≤ 8388608) (hq : 0 ≤ q) (hq' : q ≤ 100000000) :
    Gives Try.prog 51 #[.slice A n c, .int .i64 q] w (.int .i64 (q + n)) := by
  (unfold Gives; go_enter Try.func51, Try.ntmps51)
  go_wp2_with fail
  go_loopw [1, 5] (fun q' i wr => ∃ (k : Nat), k ≤ n ∧ i = .int .i64 k ∧ q' = .int .i64 (q + k) ∧ Ext w wr) (fun _ i _ => n - (intOf i).toNat)
  case atStart => exact ⟨0, by omega, rfl, by simp, Ext.refl _⟩
  case round =>
    obtain ⟨k, hk, rfl, rfl, he⟩ := hrel
    have HE := hid he
    by_cases hlt : k < n
    · obtain ⟨b, off, hA, hc⟩ := (hl.ext he).ints (i := k) (by rw [marks_len]; exact hlt)
      subst hA
      have c0 := hc k (by rw [marks_len]; exact hlt)
      rw [marks_at q n k hlt] at c0
      clear hc he hl
      go_wp2_with fail
      go_roundw
      case rel => exact ⟨k + 1, by omega, by go_num, by go_num, HE.out⟩
      case measure => simp only [intOf]; omega
    · go_wp2_with fail
      go_ret
      obtain rfl : k = n := by omega
      exact ⟨rfl, HE.out⟩

/-! ### Zone -/
theorem toZone_any (a : Int) (b : Int) (c : Int) (w : World) : Gives Try.prog 17 #[.agg #[.int .i64 a, .int .i64 b, .int .i64 c]] w (.agg #[.int .i64 a, .int .i64 b, .int .i64 c]) := by
  (unfold Gives; go_enter Try.func17, Try.ntmps17)
  go_wp2_with fail
  refine bodyPost_ret (v := .agg #[.int .i64 a, .int .i64 b, .int .i64 c]) (by simp [results, Try.results17, go_sem]) rfl ⟨rfl, ?_⟩
  repeat (first | exact Ext.refl _ | refine Ext.alloc ?_ _ | assumption | refine Ext.over ?_ _ | refine Ext.drew ?_ | refine Ext.drewN ?_ _)
theorem eqZone_same (a : Int) (b : Int) (c : Int) (w : World) : Gives Try.prog 66 #[.agg #[.int .i64 a, .int .i64 b, .int .i64 c], .agg #[.int .i64 a, .int .i64 b, .int .i64 c]] w (.bool true) := by
  (unfold Gives; go_enter Try.func66, Try.ntmps66)
  go_wp2_with fail
  all_goals (go_ret; refine ⟨by first | rfl | (go_tidy; simp_all; done) | (go_tidy; simp at *; omega), ?_⟩; repeat (first | exact Ext.refl _ | refine Ext.alloc ?_ _ | assumption | refine Ext.over ?_ _ | refine Ext.drew ?_ | refine Ext.drewN ?_ _))

theorem szZoneS_any (A : Option Addr) (n c : Nat) (left : Int) (w : World) (hn : n ≤ 9223372036854775807) (h1 : left ≤ 1048576) (h0 : 0 ≤ left) :
    Gives Try.prog 28 #[.slice A n c, .int .i64 left] w (.int .i64 (if (n : Int) ≤ left then left - n else -1)) := by
  (unfold Gives; go_enter Try.func28, Try.ntmps28)
  go_wp2_with fail
  all_goals (go_ret; refine ⟨by first | rfl | (go_tidy; simp_all; done) | (go_tidy; simp at *; omega), ?_⟩; repeat (first | exact Ext.refl _ | refine Ext.alloc ?_ _ | assumption | refine Ext.over ?_ _ | refine Ext.drew ?_ | refine Ext.drewN ?_ _))
theorem szZoneS_ok (A : Option Addr) (n c : Nat) (left : Int) (w : World) (hn : (n : Int) ≤ left) (h1 : left ≤ 1048576) :
    Gives Try.prog 28 #[.slice A n c, .int .i64 left] w (.int .i64 (left - n)) := by
  have := szZoneS_any A n c left w (by omega) h1 (by omega)
  rwa [if_pos hn] at this
theorem szZoneS_no (A : Option Addr) (n c : Nat) (left : Int) (w : World) (hn : left < (n : Int)) (hn' : n ≤ 9223372036854775807) (h1 : left ≤ 1048576) (h0 : 0 ≤ left) :
    Gives Try.prog 28 #[.slice A n c, .int .i64 left] w (.int .i64 (-1)) := by
  have := szZoneS_any A n c left w hn' h1 h0
  rwa [if_neg (by omega)] at this
theorem info_Zone : (Try.prog.info? 25).map (fun i => (i.zero, i.size, i.bytes)) = some (some (.agg #[.int .i64 0, .int .i64 0, .int .i64 0]), 3, 24) := by kernel_rfl
theorem toZoneS_any (A : Option Addr) (n c : Nat) (l : List T3) (w : World) (hl : Row w A (l.flatMap T3.v)) (hn : l.length = n) (hx : n ≤ 1048577) :
    Calls Try.prog 30 #[.slice A n c] w fun e w' => ∃ A' c', e = .returned (.slice A' n c') ∧ w'.ownsRow w.heap.size 25 3 (.slice A' n c') n (l.flatMap T3.v) ∧ Ext w w' := by
  subst hn
  obtain ⟨i0, hi, hz0, hz1, hz2⟩ := info_parts info_Zone
  go_enter Try.func30, Try.ntmps30
  go_wp2_with (at_make; refine wpList_make_full _ rfl (.tmp 6) (.tmp 6) 44 rfl w.heap.size 25 i0 _ 3 Try.underlying44 hi hz0 hz1 _ _ _ _ l.length rfl rfl rfl rfl (by rw [hz2]; omega) (by unfold maxLen; omega) (Nat.le_refl _) ?_)
  intro w1 hown hg
  have he1 : Ext w w1 := (Below.refl _ _).grown hg (Nat.le_refl _) (by simp)
  have HO := hid hown
  have HE := hid he1
  clear hown he1 hg hz0 hz1 hz2 hi
  go_wp2_with fail
  go_loopw [4] (fun i wr => ∃ (k : Nat) (cs : List Value), k ≤ l.length ∧ i = .int .i64 k ∧ wr.ownsRow w.heap.size 25 3 (.slice (some ⟨w.heap.size, 0, none⟩) l.length l.length) l.length cs ∧ Filled T3.v 3 l k cs ∧ Ext w wr) (fun i _ => l.length - (intOf i).toNat)
  case atStart => exact ⟨0, _, by omega, rfl, HO.out, Filled.zero _ _ _ _, HE.out⟩
  case round =>
    obtain ⟨k, cs, hk, rfl, hown, hfil, he⟩ := hrel
    clear HO HE
    have HO := hid hown
    have HF := hid hfil
    have HE := hid he
    by_cases hlt : k < l.length
    · obtain ⟨b, off, hA, hc⟩ := (hl.ext he).t3 hlt
      subst hA
      obtain ⟨c0, c1, c2⟩ := hc k hlt
      obtain ⟨u0, o0, f0⟩ := own_some hown (k * 3) (by omega)
      obtain ⟨u1, o1, f1⟩ := own_some hown (k * 3 + 1) (by omega)
      obtain ⟨u2, o2, f2⟩ := own_some hown (k * 3 + 2) (by omega)
      clear hc hown hfil he hl
      go_wp2_with (go_at_call 17; refine (toZone_any _ _ _ _).over.mono ?_; rintro e w' ⟨rfl, xw, rfl⟩)
      go_roundw
      case rel =>
        obtain ⟨cs', a1, a2, a3⟩ := own_step3 HO.out HF.out hlt rfl HE.out (Nat.le_refl _) _
        exact ⟨k + 1, cs', by omega, by go_num, a1, a2, a3⟩
      case measure => simp only [intOf]; omega
    · go_wp2_with fail
      go_ret
      obtain rfl : k = l.length := by omega
      have hd := HF.out.done T3.len HO.out.1
      exact ⟨_, _, rfl, hd ▸ HO.out, HE.out⟩
theorem eqZoneS_same (A B : Option Addr) (n c d : Nat) (l : List T3) (w : World) (hl : Row w A (l.flatMap T3.v)) (hl' : Row w B (l.flatMap T3.v)) (hn : l.length = n) (hx : n ≤ 9223372036854775807) :
    Gives Try.prog 33 #[.slice A n c, .slice B n d] w (.bool true) := by
  subst hn
  (unfold Gives; go_enter Try.func33, Try.ntmps33)
  go_wp2_with fail
  go_loopw [5] (fun i wr => ∃ (k : Nat), k ≤ l.length ∧ i = .int .i64 k ∧ Ext w wr) (fun i _ => l.length - (intOf i).toNat)
  case atStart => exact ⟨0, by omega, rfl, Ext.refl _⟩
  case round =>
    obtain ⟨k, hk, rfl, he⟩ := hrel
    have HE := hid he
    by_cases hlt : k < l.length
    · obtain ⟨b, off, hA, hc⟩ := (hl.ext he).t3 hlt
      subst hA
      obtain ⟨c0, c1, c2⟩ := hc k hlt
      obtain ⟨b', off', hB, hc'⟩ := (hl'.ext he).t3 hlt
      subst hB
      obtain ⟨d0, d1, d2⟩ := hc' k hlt
      clear hc hc' he hl hl'
      go_wp2_with fail
      (refine wp_region_calm (by kernel_rfl) (by kernel_rfl) ?_; (repeat (go_big_quiet_step ((go_at_call 66; exact (eqZone_same _ _ _ _).calm)))); refine wpQuiet_nil ?_; rintro w1 ⟨x1, rfl⟩)
      go_wp2_with fail
      go_roundw
      case rel => exact ⟨k + 1, by omega, by go_num, HE.out.over _⟩
      case measure => simp only [intOf]; omega
    · go_wp2_with fail
      go_ret
      exact ⟨rfl, HE.out⟩
theorem markZoneS_any (A : Option Addr) (n c base : Nat) (cs : List Value) (q : Int) (w : World) (hown : w.ownsRow base 25 3 (.slice A n c) n cs) (hx : n ≤ 8388608) (hq : 0 ≤ q) (hq' : q ≤ 100000000) :
    Calls Try.prog 48 #[.slice A n c, .int .i64 q] w fun e w' => e = .returned (.int .i64 (q + 3 * n)) ∧ w.grownBy w' (Value.slice A n c).ownBlock ∧ w'.heap.size = w.heap.size ∧ w'.ownsRow base 25 3 (.slice A n c) n ((mks3 q n).flatMap T3.v) := by
  go_enter Try.func48, Try.ntmps48
  have HO := hid hown
  clear hown
  go_wp2_with fail
  go_loopw [1, 5] (fun q' i wr => ∃ (k : Nat) (cs : List Value), k ≤ n ∧ i = .int .i64 k ∧ q' = .int .i64 (q + 3 * k) ∧ wr.ownsRow base 25 3 (.slice A n c) n cs ∧ w.grownBy wr (Value.slice A n c).ownBlock ∧ wr.heap.size = w.heap.size ∧ Filled T3.v 3 (mks3 q n) k cs) (fun _ i _ => n - (intOf i).toNat)
  case atStart => exact ⟨0, cs, by omega, rfl, by simp, HO.out, World.grownBy.refl _ _, rfl, Filled.zero _ _ _ _⟩
  case round =>
    obtain ⟨k, cs, hk, rfl, rfl, hown, hgr, hsz, hfil⟩ := hrel
    clear HO
    have HO := hid hown
    have HG := hid hgr
    have HS := hid hsz
    have HF := hid hfil
    by_cases hlt : k < n
    · obtain ⟨g, hA⟩ := own_addr hown (by omega)
      subst hA
      obtain ⟨u0, o0, f0⟩ := own_some hown (k * 3) (by omega)
      obtain ⟨u1, o1, f1⟩ := own_some hown (k * 3 + 1) (by omega)
      obtain ⟨u2, o2, f2⟩ := own_some hown (k * 3 + 2) (by omega)
      clear hown hgr hsz hfil
      go_wp2_with fail
      go_roundw
      case rel =>
        obtain ⟨cs', a1, a2, a3⟩ := own_put3 ⟨_, _, _⟩ HO.out HF.out (by rw [mks3_len]; exact hlt) (mks3_at q n k hlt) (mks3_len q n) HG.out
        exact ⟨k + 1, cs', by omega, by go_num, by go_num, a1, a3, by simpa using HS.out, a2⟩
      case measure => simp only [intOf]; omega
    · go_wp2_with fail
      go_ret
      obtain rfl : k = n := by omega
      have hd := Filled.done T3.len (l := mks3 q k) (by rw [mks3_len]; exact HF.out) (by rw [mks3_len]; exact HO.out.1)
      exact ⟨rfl, HG.out, HS.out, hd ▸ HO.out⟩

/-! ### Report -/
theorem toReport_any (a : Int) (b : Int) (c : Int) (w : World) : Gives Try.prog 31 #[.agg #[.int .i64 a, .int .i64 b, .int .i64 c]] w (.agg #[.int .i64 a, .int .i64 b, .int .i64 c]) := by
  (unfold Gives; go_enter Try.func31, Try.ntmps31)
  go_wp2_with fail
  refine bodyPost_ret (v := .agg #[.int .i64 a, .int .i64 b, .int .i64 c]) (by simp [results, Try.results31, go_sem]) rfl ⟨rfl, ?_⟩
  repeat (first | exact Ext.refl _ | refine Ext.alloc ?_ _ | assumption | refine Ext.over ?_ _ | refine Ext.drew ?_ | refine Ext.drewN ?_ _)
theorem eqReport_same (a : Int) (b : Int) (c : Int) (w : World) : Gives Try.prog 70 #[.agg #[.int .i64 a, .int .i64 b, .int .i64 c], .agg #[.int .i64 a, .int .i64 b, .int .i64 c]] w (.bool true) := by
  (unfold Gives; go_enter Try.func70, Try.ntmps70)
  go_wp2_with fail
  all_goals (go_ret; refine ⟨by first | rfl | (go_tidy; simp_all; done) | (go_tidy; simp at *; omega), ?_⟩; repeat (first | exact Ext.refl _ | refine Ext.alloc ?_ _ | assumption | refine Ext.over ?_ _ | refine Ext.drew ?_ | refine Ext.drewN ?_ _))

theorem szReportS_any (A : Option Addr) (n c : Nat) (left : Int) (w : World) (hn : n ≤ 9223372036854775807) (h1 : left ≤ 1048576) (h0 : 0 ≤ left) :
    Gives Try.prog 42 #[.slice A n c, .int .i64 left] w (.int .i64 (if (n : Int) ≤ left then left - n else -1)) := by
  (unfold Gives; go_enter Try.func42, Try.ntmps42)
  go_wp2_with fail
  all_goals (go_ret; refine ⟨by first | rfl | (go_tidy; simp_all; done) | (go_tidy; simp at *; omega), ?_⟩; repeat (first | exact Ext.refl _ | refine Ext.alloc ?_ _ | assumption | refine Ext.over ?_ _ | refine Ext.drew ?_ | refine Ext.drewN ?_ _))
theorem szReportS_ok (A : Option Addr) (n c : Nat) (left : Int) (w : World) (hn : (n : Int) ≤ left) (h1 : left ≤ 1048576) :
    Gives Try.prog 42 #[.slice A n c, .int .i64 left] w (.int .i64 (left - n)) := by
  have := szReportS_any A n c left w (by omega) h1 (by omega)
  rwa [if_pos hn] at this
theorem szReportS_no (A : Option Addr) (n c : Nat) (left : Int) (w : World) (hn : left < (n : Int)) (hn' : n ≤ 9223372036854775807) (h1 : left ≤ 1048576) (h0 : 0 ≤ left) :
    Gives Try.prog 42 #[.slice A n c, .int .i64 left] w (.int .i64 (-1)) := by
  have := szReportS_any A n c left w hn' h1 h0
  rwa [if_neg (by omega)] at this
theorem info_Report : (Try.prog.info? 46).map (fun i => (i.zero, i.size, i.bytes)) = some (some (.agg #[.int .i64 0, .int .i64 0, .int .i64 0]), 3, 24) := by kernel_rfl
theorem toReportS_any (A : Option Addr) (n c : Nat) (l : List T3) (w : World) (hl : Row w A (l.flatMap T3.v)) (hn : l.length = n) (hx : n ≤ 1048577) :
    Calls Try.prog 44 #[.slice A n c] w fun e w' => ∃ A' c', e = .returned (.slice A' n c') ∧ w'.ownsRow w.heap.size 46 3 (.slice A' n c') n (l.flatMap T3.v) ∧ Ext w w' := by
  subst hn
  obtain ⟨i0, hi, hz0, hz1, hz2⟩ := info_parts info_Report
  go_enter Try.func44, Try.ntmps44
  go_wp2_with (at_make; refine wpList_make_full _ rfl (.tmp 6) (.tmp 6) 63 rfl w.heap.size 46 i0 _ 3 Try.underlying63 hi hz0 hz1 _ _ _ _ l.length rfl rfl rfl rfl (by rw [hz2]; omega) (by unfold maxLen; omega) (Nat.le_refl _) ?_)
  intro w1 hown hg
  have he1 : Ext w w1 := (Below.refl _ _).grown hg (Nat.le_refl _) (by simp)
  have HO := hid hown
  have HE := hid he1
  clear hown he1 hg hz0 hz1 hz2 hi
  go_wp2_with fail
  go_loopw [4] (fun i wr => ∃ (k : Nat) (cs : List Value), k ≤ l.length ∧ i = .int .i64 k ∧ wr.ownsRow w.heap.size 46 3 (.slice (some ⟨w.heap.size, 0, none⟩) l.length l.length) l.length cs ∧ Filled T3.v 3 l k cs ∧ Ext w wr) (fun i _ => l.length - (intOf i).toNat)
  case atStart => exact ⟨0, _, by omega, rfl, HO.out, Filled.zero _ _ _ _, HE.out⟩
  case round =>
    obtain ⟨k, cs, hk, rfl, hown, hfil, he⟩ := hrel
    clear HO HE
    have HO := hid hown
    have HF := hid hfil
    have HE := hid he
    by_cases hlt : k < l.length
    · obtain ⟨b, off, hA, hc⟩ := (hl.ext he).t3 hlt
      subst hA
      obtain ⟨c0, c1, c2⟩ := hc k hlt
      obtain ⟨u0, o0, f0⟩ := own_some hown (k * 3) (by omega)
      obtain ⟨u1, o1, f1⟩ := own_some hown (k * 3 + 1) (by omega)
      obtain ⟨u2, o2, f2⟩ := own_some hown (k * 3 + 2) (by omega)
      clear hc hown hfil he hl
      go_wp2_with (go_at_call 31; refine (toReport_any _ _ _ _).over.mono ?_; rintro e w' ⟨rfl, xw, rfl⟩)
      go_roundw
      case rel =>
        obtain ⟨cs', a1, a2, a3⟩ := own_step3 HO.out HF.out hlt rfl HE.out (Nat.le_refl _) _
        exact ⟨k + 1, cs', by omega, by go_num, a1, a2, a3⟩
      case measure => simp only [intOf]; omega
    · go_wp2_with fail
      go_ret
      obtain rfl : k = l.length := by omega
      have hd := HF.out.done T3.len HO.out.1
      exact ⟨_, _, rfl, hd ▸ HO.out, HE.out⟩
theorem eqReportS_same (A B : Option Addr) (n c d : Nat) (l : List T3) (w : World) (hl : Row w A (l.flatMap T3.v)) (hl' : Row w B (l.flatMap T3.v)) (hn : l.length = n) (hx : n ≤ 9223372036854775807) :
    Gives Try.prog 47 #[.slice A n c, .slice B n d] w (.bool true) := by
  subst hn
  (unfold Gives; go_enter Try.func47, Try.ntmps47)
  go_wp2_with fail
  go_loopw [5] (fun i wr => ∃ (k : Nat), k ≤ l.length ∧ i = .int .i64 k ∧ Ext w wr) (fun i _ => l.length - (intOf i).toNat)
  case atStart => exact ⟨0, by omega, rfl, Ext.refl _⟩
  case round =>
    obtain ⟨k, hk, rfl, he⟩ := hrel
    have HE := hid he
    by_cases hlt : k < l.length
    · obtain ⟨b, off, hA, hc⟩ := (hl.ext he).t3 hlt
      subst hA
      obtain ⟨c0, c1, c2⟩ := hc k hlt
      obtain ⟨b', off', hB, hc'⟩ := (hl'.ext he).t3 hlt
      subst hB
      obtain ⟨d0, d1, d2⟩ := hc' k hlt
      clear hc hc' he hl hl'
      go_wp2_with fail
      (refine wp_region_calm (by kernel_rfl) (by kernel_rfl) ?_; (repeat (go_big_quiet_step ((go_at_call 70; exact (eqReport_same _ _ _ _).calm)))); refine wpQuiet_nil ?_; rintro w1 ⟨x1, rfl⟩)
      go_wp2_with fail
      go_roundw
      case rel => exact ⟨k + 1, by omega, by go_num, HE.out.over _⟩
      case measure => simp only [intOf]; omega
    · go_wp2_with fail
      go_ret
      exact ⟨rfl, HE.out⟩
theorem markReportS_any (A : Option Addr) (n c base : Nat) (cs : List Value) (q : Int) (w : World) (hown : w.ownsRow base 46 3 (.slice A n c) n cs) (hx : n ≤ 8388608) (hq : 0 ≤ q) (hq' : q ≤ 100000000) :
    Calls Try.prog 49 #[.slice A n c, .int .i64 q] w fun e w' => e = .returned (.int .i64 (q + 3 * n)) ∧ w.grownBy w' (Value.slice A n c).ownBlock ∧ w'.heap.size = w.heap.size ∧ w'.ownsRow base 46 3 (.slice A n c) n ((mks3 q n).flatMap T3.v) := by
  go_enter Try.func49, Try.ntmps49
  have HO := hid hown
  clear hown
  go_wp2_with fail
  go_loopw [1, 5] (fun q' i wr => ∃ (k : Nat) (cs : List Value), k ≤ n ∧ i = .int .i64 k ∧ q' = .int .i64 (q + 3 * k) ∧ wr.ownsRow base 46 3 (.slice A n c) n cs ∧ w.grownBy wr (Value.slice A n c).ownBlock ∧ wr.heap.size = w.heap.size ∧ Filled T3.v 3 (mks3 q n) k cs) (fun _ i _ => n - (intOf i).toNat)
  case atStart => exact ⟨0, cs, by omega, rfl, by simp, HO.out, World.grownBy.refl _ _, rfl, Filled.zero _ _ _ _⟩
  case round =>
    obtain ⟨k, cs, hk, rfl, rfl, hown, hgr, hsz, hfil⟩ := hrel
    clear HO
    have HO := hid hown
    have HG := hid hgr
    have HS := hid hsz
    have HF := hid hfil
    by_cases hlt : k < n
    · obtain ⟨g, hA⟩ := own_addr hown (by omega)
      subst hA
      obtain ⟨u0, o0, f0⟩ := own_some hown (k * 3) (by omega)
      obtain ⟨u1, o1, f1⟩ := own_some hown (k * 3 + 1) (by omega)
      obtain ⟨u2, o2, f2⟩ := own_some hown (k * 3 + 2) (by omega)
      clear hown hgr hsz hfil
      go_wp2_with fail
      go_roundw
      case rel =>
        obtain ⟨cs', a1, a2, a3⟩ := own_put3 ⟨_, _, _⟩ HO.out HF.out (by rw [mks3_len]; exact hlt) (mks3_at q n k hlt) (mks3_len q n) HG.out
        exact ⟨k + 1, cs', by omega, by go_num, by go_num, a1, a3, by simpa using HS.out, a2⟩
      case measure => simp only [intOf]; omega
    · go_wp2_with fail
      go_ret
      obtain rfl : k = n := by omega
      have hd := Filled.done T3.len (l := mks3 q k) (by rw [mks3_len]; exact HF.out) (by rw [mks3_len]; exact HO.out.1)
      exact ⟨rfl, HG.out, HS.out, hd ▸ HO.out⟩
end Go.Proofs.Ytbhbpibghjiknaa
