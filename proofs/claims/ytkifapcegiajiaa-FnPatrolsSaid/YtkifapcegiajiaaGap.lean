/- Walks: gapOf, l22Gap, LongestGap. Conditions: sizes. -/
import Derived.Test.YtkifapcegiajiaaSeen
namespace Go.Proofs.Ytkifapcegiajiaa
open Go.RowKit
set_option linter.unusedVariables false

def gapN (l : List Int) (z : Int) : Nat → Int
  | 0 => atI l 0 + z - atI l (l.length - 1)
  | k + 1 => max (gapN l z k) (atI l (k + 1) - atI l k)
def gapZ (l : List Int) (z : Int) : Int := if l.length = 0 then -1 else gapN l z (l.length - 1)
theorem gapN_bd {l : List Int} {z M : Int} (hz : 0 ≤ z ∧ z ≤ M) (hb : ∀ k, k < l.length → 0 ≤ atI l k ∧ atI l k ≤ M) : ∀ k, k < l.length → -M ≤ gapN l z k ∧ gapN l z k ≤ 2 * M
  | 0, h => by
    have h1 := hb 0 h
    have h2 := hb (l.length - 1) (by omega)
    simp only [gapN]; omega
  | k + 1, h => by
    have ih := gapN_bd hz hb k (by omega)
    have h1 := hb k (by omega)
    have h2 := hb (k + 1) h
    simp only [gapN]; omega
set_option maxRecDepth 100000 in
set_option maxHeartbeats 1600000 in
theorem gapOf_any (A : Option Addr) (n c : Nat) (l : List Int) (z : Int) (w : World) (hr : Row w A (l.map (Value.int .i64))) (hl : l.length = n) (hx : n ≤ 1048577) (hb : ∀ k, k < l.length → 0 ≤ atI l k ∧ atI l k ≤ 1048577) (hz : 0 ≤ z ∧ z ≤ 1048577) : Gives Try.prog 47 #[.slice A n c, .int .i64 z] w (.int .i64 (gapZ l z)) := by
  subst hl
  have HR := hid hr
  clear hr
  by_cases h0 : l.length = 0
  · have HV := hid (show gapZ l z = -1 by unfold gapZ; rw [if_pos h0])
    rw [h0]
    (unfold Gives; go_enter Try.func47, Try.ntmps47)
    go_wp2_with fail
    go_ret
    exact ⟨by rw [HV.out]; rfl, by repeat (first | exact Ext.refl _ | refine Ext.alloc ?_ _ | assumption | refine Ext.over ?_ _ | refine Ext.drew ?_ | refine Ext.drewN ?_ _)⟩
  have HV := hid (show gapZ l z = gapN l z (l.length - 1) by unfold gapZ; rw [if_neg h0])
  have hpos : 0 < l.length := by omega
  have h0' : (0 : Int) < l.length := by omega
  have hne : ((l.length : Int) == 0) = false := by rw [beq_eq_false_iff_ne]; omega
  have HBD := hid (gapN_bd hz hb)
  have HB := hid hb
  obtain ⟨im, him⟩ : ∃ im, im = l.length - 1 := ⟨_, rfl⟩
  have hwj : IntKind.i64.wrap ((l.length : Int) - 1) = (im : Int) := by rw [IntWalk.i64_in _ (by omega)]; omega
  have him' : (im : Int) < l.length := by omega
  obtain ⟨bk, off, hB, hc⟩ := HR.out.ints hpos
  have c0 := hc 0 hpos
  have ce := hc im (by omega)
  rw [Nat.add_zero] at c0
  have HV0 := hid (show gapN l z 0 = atI l 0 + z - atI l im by rw [him]; rfl)
  have b1 := hb 0 hpos
  have b2 := hb im (by omega)
  subst hB
  clear hc h0 him hb
  generalize atI l im = x1 at ce HV0 b2
  generalize atI l 0 = x0 at c0 HV0 b1
  (unfold Gives; go_enter Try.func47, Try.ntmps47)
  go_wp2_with fail
  (refine wp_region_calm (by kernel_rfl) (by kernel_rfl) ?_; (repeat (go_big_quiet_step (fail))); refine wpQuiet_nil ?_; rintro w1 ⟨x1, rfl⟩)
  go_wp2_with fail
  go_loopw [5, 6] (fun mv iv wr => ∃ (i : Nat), i < l.length ∧ iv = .int .i64 (↑(i + 1)) ∧ mv = .int .i64 (gapN l z i) ∧ Ext w wr) (fun _ iv _ => l.length + 1 - (intOf iv).toNat)
  case atStart => exact ⟨0, hpos, by go_num, by rw [HV0.out], by repeat (first | exact Ext.refl _ | refine Ext.alloc ?_ _ | assumption | refine Ext.over ?_ _ | refine Ext.drew ?_ | refine Ext.drewN ?_ _)⟩
  case round =>
    clear c0 ce hwj
    obtain ⟨i, hi, rfl, rfl, he⟩ := hrel
    have HE := hid he
    have hg := HBD.out i hi
    clear he
    obtain ⟨k, hk⟩ : ∃ k, k = i + 1 := ⟨_, rfl⟩
    rw [← hk]
    by_cases hlt : k < l.length
    · have hkt : (k : Int) < l.length := by omega
      have hit : (i : Int) < l.length := by omega
      have hwi : IntKind.i64.wrap ((k : Int) - 1) = (i : Int) := by rw [IntWalk.i64_in _ (by omega)]; omega
      obtain ⟨bk2, off2, hB, hc⟩ := (HR.out.ext HE.out).ints hlt
      have c1 := hc k hlt
      have c2 := hc i hi
      have HS := hid (show gapN l z k = max (gapN l z i) (atI l k - atI l i) by rw [hk]; rfl)
      have b3 := HB.out k hlt
      have b4 := HB.out i hi
      have HK := hid hk
      cases hB
      clear hc hk
      generalize gapN l z i = g at hg HS ⊢
      generalize atI l k = xk at c1 b3 HS
      generalize atI l i = xi at c2 b4 HS
      go_wp2_with fail
      (refine wp_region_calm (by kernel_rfl) (by kernel_rfl) ?_; (repeat (go_big_quiet_step (fail))); refine wpQuiet_nil ?_; rintro w1 ⟨x1, rfl⟩)
      go_wp2_with fail
      go_roundw
      case rel => exact ⟨k, hlt, by go_num, by rw [HS.out]; congr 1; first | omega | (split <;> omega), HE.out.trans (by repeat (first | exact Ext.refl _ | refine Ext.alloc ?_ _ | assumption | refine Ext.over ?_ _ | refine Ext.drew ?_ | refine Ext.drewN ?_ _))⟩
      case measure => have := HK.out; simp [intOf]; omega
    · have HE2 := hid (show gapZ l z = gapN l z i by rw [HV.out]; congr 1; omega)
      have hkt : ¬ (k : Int) < l.length := by omega
      go_wp2_with fail
      go_ret
      exact ⟨by rw [HE2.out]; rfl, HE.out⟩
theorem idxs_bd {p : Nat → Bool} {n k : Nat} (hk : k < (idxs p n).length) : 0 ≤ atI (idxs p n) k ∧ atI (idxs p n) k < n := by
  have : atI (idxs p n) k ∈ idxs p n := by rw [atI_eq _ _ hk]; exact List.getElem_mem hk
  obtain ⟨j, h1, h2, _⟩ := idxs_mem.1 this
  omega
theorem seenL_bd (L P : List T2) (p : T2) {k : Nat} (hk : k < (seenL L P p).length) : 0 ≤ atI (seenL L P p) k ∧ atI (seenL L P p) k ≤ 1048577 := by
  unfold seenL at *
  split at hk
  · rename_i h
    rw [if_pos h]
    simp only [Bool.and_eq_true] at h
    have := patrol_len h.1
    have := idxs_bd hk
    omega
  · simp at hk
def gapR (L P : List T2) (p : T2) : Int := gapZ (seenL L P p) P.length
theorem own_len1S {w : World} {b : Nat} {e : TypeId} {n : Nat} {v : Value} {l : List Int} (h : w.ownsRow b e 1 v n (l.map (Value.int .i64))) : l.length = n := by
  have := h.1; simp only [List.length_map] at this; omega
set_option maxRecDepth 100000 in
set_option maxHeartbeats 1600000 in
theorem iGap_at (A : Option Addr) (n c : Nat) (L : List T2) (B : Option Addr) (m d : Nat) (P : List T2) (pa pb : Int) (w : World) (hl : Row w A (L.flatMap T2.v)) (hn : L.length = n) (hx : n ≤ 1048577) (hr : Row w B (P.flatMap T2.v)) (hm : P.length = m) (hy : m ≤ 1048577) :
    Gives Try.prog 20 #[.agg #[.slice A n c], .slice B m d, .agg #[.int .i64 pa, .int .i64 pb]] w (.int .i64 (gapR L P (⟨pa, pb⟩ : T2))) := by
  subst hm
  have HL := hid hl
  have HR := hid hr
  have HV := hid (show gapR L P (⟨pa, pb⟩ : T2) = gapZ (seenL L P (⟨pa, pb⟩ : T2)) P.length from rfl)
  have HB := hid (fun k hk => seenL_bd L P (⟨pa, pb⟩ : T2) (k := k) hk)
  have h40 := seenL_len L P (⟨pa, pb⟩ : T2)
  have HZ := hid (show (0 : Int) ≤ P.length ∧ (P.length : Int) ≤ 1048577 by omega)
  clear hl hr
  (unfold Gives; go_enter Try.func20, Try.ntmps20)
  go_wp2_with fail
  refine (iSeenOn_at A n c L B P.length d P pa pb _ (HL.out.ext (by repeat (first | exact Ext.refl _ | refine Ext.alloc ?_ _ | assumption | refine Ext.over ?_ _ | refine Ext.drew ?_ | refine Ext.drewN ?_ _))) hn hx (HR.out.ext (by repeat (first | exact Ext.refl _ | refine Ext.alloc ?_ _ | assumption | refine Ext.over ?_ _ | refine Ext.drew ?_ | refine Ext.drewN ?_ _))) rfl hy).mono ?_
  rintro _ w1 ⟨A1, m1, c1, rfl, ho, e1⟩
  have hm1 := own_len1S ho
  have E1 := hid (Ext.trans (show Ext w _ by repeat (first | exact Ext.refl _ | refine Ext.alloc ?_ _ | assumption | refine Ext.over ?_ _ | refine Ext.drew ?_ | refine Ext.drewN ?_ _)) e1)
  have HO := hid (Row.of_own ho)
  clear ho e1
  generalize seenL L P (⟨pa, pb⟩ : T2) = l at *
  subst hm1
  go_wp2_with (go_at_call 47; refine (gapOf_any A1 l.length c1 l P.length _ (HO.out.ext (by repeat (first | exact Ext.refl _ | refine Ext.alloc ?_ _ | assumption | refine Ext.over ?_ _ | refine Ext.drew ?_ | refine Ext.drewN ?_ _))) rfl (by omega) HB.out HZ.out).over.mono ?_; rintro e w' ⟨rfl, xw, rfl⟩)
  go_ret
  exact ⟨by rw [HV.out]; rfl, E1.out.trans (by repeat (first | exact Ext.refl _ | refine Ext.alloc ?_ _ | assumption | refine Ext.over ?_ _ | refine Ext.drew ?_ | refine Ext.drewN ?_ _))⟩
end Go.Proofs.Ytkifapcegiajiaa
