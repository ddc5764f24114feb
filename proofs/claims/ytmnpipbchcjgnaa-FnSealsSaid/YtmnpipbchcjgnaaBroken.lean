/- Walks: LastSeal, FirstBroken, IsSealed. Conditions: sizes. -/
import Derived.Test.YtmnpipbchcjgnaaSeal
import Derived.Test.YtmnpipbchcjgnaaRowM
namespace Go.Proofs.Ytmnpipbchcjgnaa
open Go.RowKit

theorem atEN_ok {l : List EN} (h : ∀ x ∈ l, x.ok) {i : Nat} (hi : i < l.length) : (atEN l i).ok := by
  rw [atEN_eq l i hi]; exact h _ (List.getElem_mem hi)
def prevSeal (l : List EN) : Nat → Int
  | 0 => 1
  | k + 1 => (atEN l k).c
def nextSeal (l : List EN) (k : Nat) : Int := sealOf (prevSeal l k) (atEN l k).a (atEN l k).b
def earlier (l : List EN) : Nat → Bool
  | 0 => false
  | k + 1 => decide ((atEN l (k + 1)).a < (atEN l k).a)
def brokenAt (l : List EN) (k : Nat) : Bool := decide (nextSeal l k < 0) || !(nextSeal l k == (atEN l k).c) || earlier l k
def broken (l : List EN) : Int := firstN l.length (brokenAt l)
theorem broken_ge (l : List EN) : -1 ≤ broken l := by
  unfold broken firstN
  split <;> omega
theorem iLast_any (A : Option Addr) (n c : Nat) (l : List EN) (w : World) (hl : Row w A (l.flatMap EN.v)) (hn : l.length = n) (hx : n ≤ 1048577) : Gives Try.prog 10 #[.slice A n c] w (.int .i64 (prevSeal l n)) := by
  subst hn
  rcases Nat.eq_zero_or_pos l.length with h0 | h0
  · rw [h0]
    (unfold Gives; go_enter Try.func10, Try.ntmps10)
    go_wp2_with fail
    go_ret
    exact ⟨rfl, Ext.refl _⟩
  · obtain ⟨k, hk⟩ : ∃ k, l.length = k + 1 := ⟨l.length - 1, by omega⟩
    rw [hk]
    obtain ⟨b, off, rfl, hc⟩ := hl.en (i := k) (by omega)
    obtain ⟨c1, c2, c3⟩ := hc k (by omega)
    have hz : (((k : Nat) : Int) + 1 == 0) = false := by simp only [beq_eq_false_iff_ne]; omega
    have hkx : k + 1 ≤ 1048577 := by omega
    clear hc hk h0 hl hx
    (unfold Gives; go_enter Try.func10, Try.ntmps10)
    go_wp2_with fail
    go_ret
    exact ⟨rfl, Ext.refl _⟩
theorem sLast_any (A : Option Addr) (n c : Nat) (l : List EN) (w : World) (hl : Row w A (l.flatMap EN.v)) (hn : l.length = n) (hx : n ≤ 1048577) : Gives Try.prog 11 #[.slice A n c] w (.int .i64 (prevSeal l n)) := by
  subst hn
  rcases Nat.eq_zero_or_pos l.length with h0 | h0
  · rw [h0]
    (unfold Gives; go_enter Try.func11, Try.ntmps11)
    go_wp2_with fail
    go_ret
    exact ⟨rfl, Ext.refl _⟩
  · obtain ⟨k, hk⟩ : ∃ k, l.length = k + 1 := ⟨l.length - 1, by omega⟩
    rw [hk]
    obtain ⟨b, off, rfl, hc⟩ := hl.en (i := k) (by omega)
    obtain ⟨c1, c2, c3⟩ := hc k (by omega)
    have hz : (((k : Nat) : Int) + 1 == 0) = false := by simp only [beq_eq_false_iff_ne]; omega
    have hkx : k + 1 ≤ 1048577 := by omega
    clear hc hk h0 hl hx
    (unfold Gives; go_enter Try.func11, Try.ntmps11)
    go_wp2_with fail
    go_ret
    exact ⟨rfl, Ext.refl _⟩
theorem iBroken_any (A : Option Addr) (n c : Nat) (l : List EN) (w : World) (hl : Row w A (l.flatMap EN.v)) (hn : l.length = n) (hx : n ≤ 1048577) (hok : ∀ x ∈ l, x.ok) : Gives Try.prog 9 #[.slice A n c] w (.int .i64 (broken l)) := by
  subst hn
  (unfold Gives; go_enter Try.func9, Try.ntmps9)
  go_wp2_with fail
  go_loopw [3, 9] (fun s i wr => ∃ (k : Nat), (∀ j, j < k → brokenAt l j = false) ∧ k ≤ l.length ∧ i = .int .i64 ↑k ∧ s = .int .i64 (prevSeal l k) ∧ Ext w wr) (fun _ i _ => (l.length - (intOf i).toNat))
  case atStart => exact ⟨0, by omega, by omega, rfl, rfl, Ext.refl _⟩
  case round =>
    obtain ⟨k, hk, hkn, rfl, rfl, he⟩ := hrel
    have HK := hid hk
    have HE := hid he
    obtain ⟨x, rfl⟩ := he.ex
    clear hk he
    by_cases hlt : k < l.length
    · have hs := (atEN_ok hok hlt).2.1
      obtain ⟨b, off, rfl, hc⟩ := hl.en hlt
      obtain ⟨c1, c2, c3⟩ := hc k hlt
      cases h1 : decide (sealOf (prevSeal l k) (atEN l k).a (atEN l k).b < 0)
      · cases h2 : (sealOf (prevSeal l k) (atEN l k).a (atEN l k).b == (atEN l k).c)
        · have h2' : (sealOf (prevSeal l k) (atEN l k).a (atEN l k).b != (atEN l k).c) = true := by rw [bne, h2]; rfl
          have HB := hid (show brokenAt l k = true by unfold brokenAt nextSeal; rw [h2]; simp)
          clear hc hok
          go_wp2_with (go_at_call 24; refine (iSeal_any _ _ _ hs _).over.mono ?_; rintro e w' ⟨rfl, xw, rfl⟩)
          (refine wp_region_calm (by kernel_rfl) (by kernel_rfl) ?_; (repeat (go_big_quiet_step (fail))); refine wpQuiet_nil ?_; rintro w1 ⟨x1, rfl⟩)
          go_wp2_with fail
          go_ret
          refine ⟨by rw [broken, firstN_hit HK.out hlt HB.out]; rfl, ?_⟩
          repeat (first | exact Ext.refl _ | refine Ext.alloc ?_ _ | assumption | refine Ext.over ?_ _ | refine Ext.drew ?_ | refine Ext.drewN ?_ _)
        · have h2' : (sealOf (prevSeal l k) (atEN l k).a (atEN l k).b != (atEN l k).c) = false := by rw [bne, h2]; rfl
          rcases k with _ | j
          · have HB := hid (show brokenAt l 0 = false by unfold brokenAt nextSeal; rw [h1, h2]; rfl)
            simp only [Nat.zero_mul, Nat.add_zero] at c1 c2 c3
            clear hc hok
            go_wp2_with (go_at_call 24; refine (iSeal_any _ _ _ hs _).over.mono ?_; rintro e w' ⟨rfl, xw, rfl⟩)
            (refine wp_region_calm (by kernel_rfl) (by kernel_rfl) ?_; (repeat (go_big_quiet_step (fail))); refine wpQuiet_nil ?_; rintro w1 ⟨x1, rfl⟩)
            go_wp2_with fail
            go_roundw
            case rel =>
              refine ⟨1, lt_succ_all HK.out HB.out, by omega, rfl, rfl, ?_⟩
              repeat (first | exact Ext.refl _ | refine Ext.alloc ?_ _ | assumption | refine Ext.over ?_ _ | refine Ext.drew ?_ | refine Ext.drewN ?_ _)
            case measure => simp [intOf]; omega
          · obtain ⟨d1, d2, d3⟩ := hc j (by omega)
            cases h3 : decide ((atEN l (j + 1)).a < (atEN l j).a)
            · have HB := hid (show brokenAt l (j + 1) = false by unfold brokenAt nextSeal; rw [h1, h2]; show (false || !true || decide ((atEN l (j + 1)).a < (atEN l j).a)) = false; rw [h3]; rfl)
              clear hc hok
              go_wp2_with (go_at_call 24; refine (iSeal_any _ _ _ hs _).over.mono ?_; rintro e w' ⟨rfl, xw, rfl⟩)
              (refine wp_region_calm (by kernel_rfl) (by kernel_rfl) ?_; (repeat (go_big_quiet_step (fail))); refine wpQuiet_nil ?_; rintro w1 ⟨x1, rfl⟩)
              go_wp2_with fail
              go_roundw
              case rel =>
                refine ⟨j + 1 + 1, lt_succ_all HK.out HB.out, by omega, by go_num, rfl, ?_⟩
                repeat (first | exact Ext.refl _ | refine Ext.alloc ?_ _ | assumption | refine Ext.over ?_ _ | refine Ext.drew ?_ | refine Ext.drewN ?_ _)
              case measure => simp [intOf]; omega
            · have HB := hid (show brokenAt l (j + 1) = true by unfold brokenAt nextSeal; rw [show earlier l (j + 1) = true from h3]; simp)
              clear hc hok
              go_wp2_with (go_at_call 24; refine (iSeal_any _ _ _ hs _).over.mono ?_; rintro e w' ⟨rfl, xw, rfl⟩)
              (refine wp_region_calm (by kernel_rfl) (by kernel_rfl) ?_; (repeat (go_big_quiet_step (fail))); refine wpQuiet_nil ?_; rintro w1 ⟨x1, rfl⟩)
              go_wp2_with fail
              go_ret
              refine ⟨by rw [broken, firstN_hit HK.out hlt HB.out]; rfl, ?_⟩
              repeat (first | exact Ext.refl _ | refine Ext.alloc ?_ _ | assumption | refine Ext.over ?_ _ | refine Ext.drew ?_ | refine Ext.drewN ?_ _)
      · have HB := hid (show brokenAt l k = true by unfold brokenAt nextSeal; rw [h1]; simp)
        clear hc hok
        go_wp2_with (go_at_call 24; refine (iSeal_any _ _ _ hs _).over.mono ?_; rintro e w' ⟨rfl, xw, rfl⟩)
        (refine wp_region_calm (by kernel_rfl) (by kernel_rfl) ?_; (repeat (go_big_quiet_step (fail))); refine wpQuiet_nil ?_; rintro w1 ⟨x1, rfl⟩)
        go_wp2_with fail
        go_ret
        refine ⟨by rw [broken, firstN_hit HK.out hlt HB.out]; rfl, ?_⟩
        repeat (first | exact Ext.refl _ | refine Ext.alloc ?_ _ | assumption | refine Ext.over ?_ _ | refine Ext.drew ?_ | refine Ext.drewN ?_ _)
    · go_wp2_with fail
      go_ret
      exact ⟨by rw [broken, firstN_none (fun j hj => HK.out j (by omega))]; rfl, HE.out⟩
theorem sBroken_any (A : Option Addr) (n c : Nat) (l : List EN) (w : World) (hl : Row w A (l.flatMap EN.v)) (hn : l.length = n) (hx : n ≤ 1048577) (hok : ∀ x ∈ l, x.ok) : Gives Try.prog 56 #[.slice A n c] w (.int .i64 (broken l)) := by
  subst hn
  (unfold Gives; go_enter Try.func56, Try.ntmps56)
  go_wp2_with fail
  go_loopw [3, 4] (fun s i wr => ∃ (k : Nat), (∀ j, j < k → brokenAt l j = false) ∧ k ≤ l.length ∧ i = .int .i64 ↑k ∧ s = .int .i64 (prevSeal l k) ∧ Ext w wr) (fun _ i _ => (l.length - (intOf i).toNat))
  case atStart => exact ⟨0, by omega, by omega, rfl, rfl, Ext.refl _⟩
  case round =>
    obtain ⟨k, hk, hkn, rfl, rfl, he⟩ := hrel
    have HK := hid hk
    have HE := hid he
    obtain ⟨x, rfl⟩ := he.ex
    clear hk he
    by_cases hlt : k < l.length
    · have hs := (atEN_ok hok hlt).2.1
      obtain ⟨b, off, rfl, hc⟩ := hl.en hlt
      obtain ⟨c1, c2, c3⟩ := hc k hlt
      cases h1 : decide (sealOf (prevSeal l k) (atEN l k).a (atEN l k).b < 0)
      · cases h2 : (sealOf (prevSeal l k) (atEN l k).a (atEN l k).b == (atEN l k).c)
        · have h2' : (sealOf (prevSeal l k) (atEN l k).a (atEN l k).b != (atEN l k).c) = true := by rw [bne, h2]; rfl
          have HB := hid (show brokenAt l k = true by unfold brokenAt nextSeal; rw [h2]; simp)
          clear hc hok
          go_wp2_with (go_at_call 40; refine (sSeal_any _ _ _ hs _).over.mono ?_; rintro e w' ⟨rfl, xw, rfl⟩)
          (refine wp_region_calm (by kernel_rfl) (by kernel_rfl) ?_; (repeat (go_big_quiet_step (fail))); refine wpQuiet_nil ?_; rintro w1 ⟨x1, rfl⟩)
          go_wp2_with fail
          go_ret
          refine ⟨by rw [broken, firstN_hit HK.out hlt HB.out]; rfl, ?_⟩
          repeat (first | exact Ext.refl _ | refine Ext.alloc ?_ _ | assumption | refine Ext.over ?_ _ | refine Ext.drew ?_ | refine Ext.drewN ?_ _)
        · have h2' : (sealOf (prevSeal l k) (atEN l k).a (atEN l k).b != (atEN l k).c) = false := by rw [bne, h2]; rfl
          rcases k with _ | j
          · have HB := hid (show brokenAt l 0 = false by unfold brokenAt nextSeal; rw [h1, h2]; rfl)
            simp only [Nat.zero_mul, Nat.add_zero] at c1 c2 c3
            clear hc hok
            go_wp2_with (go_at_call 40; refine (sSeal_any _ _ _ hs _).over.mono ?_; rintro e w' ⟨rfl, xw, rfl⟩)
            (refine wp_region_calm (by kernel_rfl) (by kernel_rfl) ?_; (repeat (go_big_quiet_step (fail))); refine wpQuiet_nil ?_; rintro w1 ⟨x1, rfl⟩)
            go_wp2_with fail
            go_roundw
            case rel =>
              refine ⟨1, lt_succ_all HK.out HB.out, by omega, rfl, rfl, ?_⟩
              repeat (first | exact Ext.refl _ | refine Ext.alloc ?_ _ | assumption | refine Ext.over ?_ _ | refine Ext.drew ?_ | refine Ext.drewN ?_ _)
            case measure => simp [intOf]; omega
          · obtain ⟨d1, d2, d3⟩ := hc j (by omega)
            cases h3 : decide ((atEN l (j + 1)).a < (atEN l j).a)
            · have HB := hid (show brokenAt l (j + 1) = false by unfold brokenAt nextSeal; rw [h1, h2]; show (false || !true || decide ((atEN l (j + 1)).a < (atEN l j).a)) = false; rw [h3]; rfl)
              clear hc hok
              go_wp2_with (go_at_call 40; refine (sSeal_any _ _ _ hs _).over.mono ?_; rintro e w' ⟨rfl, xw, rfl⟩)
              (refine wp_region_calm (by kernel_rfl) (by kernel_rfl) ?_; (repeat (go_big_quiet_step (fail))); refine wpQuiet_nil ?_; rintro w1 ⟨x1, rfl⟩)
              go_wp2_with fail
              go_roundw
              case rel =>
                refine ⟨j + 1 + 1, lt_succ_all HK.out HB.out, by omega, by go_num, rfl, ?_⟩
                repeat (first | exact Ext.refl _ | refine Ext.alloc ?_ _ | assumption | refine Ext.over ?_ _ | refine Ext.drew ?_ | refine Ext.drewN ?_ _)
              case measure => simp [intOf]; omega
            · have HB := hid (show brokenAt l (j + 1) = true by unfold brokenAt nextSeal; rw [show earlier l (j + 1) = true from h3]; simp)
              clear hc hok
              go_wp2_with (go_at_call 40; refine (sSeal_any _ _ _ hs _).over.mono ?_; rintro e w' ⟨rfl, xw, rfl⟩)
              (refine wp_region_calm (by kernel_rfl) (by kernel_rfl) ?_; (repeat (go_big_quiet_step (fail))); refine wpQuiet_nil ?_; rintro w1 ⟨x1, rfl⟩)
              go_wp2_with fail
              go_ret
              refine ⟨by rw [broken, firstN_hit HK.out hlt HB.out]; rfl, ?_⟩
              repeat (first | exact Ext.refl _ | refine Ext.alloc ?_ _ | assumption | refine Ext.over ?_ _ | refine Ext.drew ?_ | refine Ext.drewN ?_ _)
      · have HB := hid (show brokenAt l k = true by unfold brokenAt nextSeal; rw [h1]; simp)
        clear hc hok
        go_wp2_with (go_at_call 40; refine (sSeal_any _ _ _ hs _).over.mono ?_; rintro e w' ⟨rfl, xw, rfl⟩)
        (refine wp_region_calm (by kernel_rfl) (by kernel_rfl) ?_; (repeat (go_big_quiet_step (fail))); refine wpQuiet_nil ?_; rintro w1 ⟨x1, rfl⟩)
        go_wp2_with fail
        go_ret
        refine ⟨by rw [broken, firstN_hit HK.out hlt HB.out]; rfl, ?_⟩
        repeat (first | exact Ext.refl _ | refine Ext.alloc ?_ _ | assumption | refine Ext.over ?_ _ | refine Ext.drew ?_ | refine Ext.drewN ?_ _)
    · go_wp2_with fail
      go_ret
      exact ⟨by rw [broken, firstN_none (fun j hj => HK.out j (by omega))]; rfl, HE.out⟩
def sealed (l : List EN) : Bool := decide (l.length ≤ 30) && decide (broken l < 0)
theorem iSealed_any (A : Option Addr) (n c : Nat) (l : List EN) (w : World) (hl : Row w A (l.flatMap EN.v)) (hn : l.length = n) (hx : n ≤ 1048577) (hok : ∀ x ∈ l, x.ok) : Gives Try.prog 8 #[.slice A n c] w (.bool (sealed l)) := by
  subst hn
  have hb := broken_ge l
  by_cases h : l.length ≤ 30
  · cases h2 : decide (broken l < 0)
    · have h3 : (broken l == -1) = false := by simp at h2; simp; omega
      have HS := hid (show sealed l = false by unfold sealed; rw [h2]; simp)
      clear hb
      (unfold Gives; go_enter Try.func8, Try.ntmps8)
      go_wp2_with (go_at_call 9; refine (iBroken_any _ _ _ l _ (hl.ext (by repeat (first | exact Ext.refl _ | refine Ext.alloc ?_ _ | assumption | refine Ext.over ?_ _ | refine Ext.drew ?_ | refine Ext.drewN ?_ _))) rfl hx hok).over.mono ?_; rintro e w' ⟨rfl, xw, rfl⟩)
      go_ret
      exact ⟨by rw [HS.out]; rfl, by repeat (first | exact Ext.refl _ | refine Ext.alloc ?_ _ | assumption | refine Ext.over ?_ _ | refine Ext.drew ?_ | refine Ext.drewN ?_ _)⟩
    · have h3 : (broken l == -1) = true := by simp at h2; simp; omega
      have HS := hid (show sealed l = true by unfold sealed; rw [h2]; simp [h])
      clear hb
      (unfold Gives; go_enter Try.func8, Try.ntmps8)
      go_wp2_with (go_at_call 9; refine (iBroken_any _ _ _ l _ (hl.ext (by repeat (first | exact Ext.refl _ | refine Ext.alloc ?_ _ | assumption | refine Ext.over ?_ _ | refine Ext.drew ?_ | refine Ext.drewN ?_ _))) rfl hx hok).over.mono ?_; rintro e w' ⟨rfl, xw, rfl⟩)
      go_ret
      exact ⟨by rw [HS.out]; rfl, by repeat (first | exact Ext.refl _ | refine Ext.alloc ?_ _ | assumption | refine Ext.over ?_ _ | refine Ext.drew ?_ | refine Ext.drewN ?_ _)⟩
  · have HS := hid (show sealed l = false by unfold sealed; simp [h])
    clear hb
    (unfold Gives; go_enter Try.func8, Try.ntmps8)
    go_wp2_with fail
    go_ret
    exact ⟨by rw [HS.out]; rfl, by repeat (first | exact Ext.refl _ | refine Ext.alloc ?_ _ | assumption | refine Ext.over ?_ _ | refine Ext.drew ?_ | refine Ext.drewN ?_ _)⟩
theorem sSealed_any (A : Option Addr) (n c : Nat) (l : List EN) (w : World) (hl : Row w A (l.flatMap EN.v)) (hn : l.length = n) (hx : n ≤ 1048577) (hok : ∀ x ∈ l, x.ok) : Gives Try.prog 41 #[.slice A n c] w (.bool (sealed l)) := by
  subst hn
  have hb := broken_ge l
  by_cases h : l.length ≤ 30
  · cases h2 : decide (broken l < 0)
    · have h3 : (broken l == -1) = false := by simp at h2; simp; omega
      have HS := hid (show sealed l = false by unfold sealed; rw [h2]; simp)
      clear hb
      (unfold Gives; go_enter Try.func41, Try.ntmps41)
      go_wp2_with (go_at_call 56; refine (sBroken_any _ _ _ l _ (hl.ext (by repeat (first | exact Ext.refl _ | refine Ext.alloc ?_ _ | assumption | refine Ext.over ?_ _ | refine Ext.drew ?_ | refine Ext.drewN ?_ _))) rfl hx hok).over.mono ?_; rintro e w' ⟨rfl, xw, rfl⟩)
      go_ret
      exact ⟨by rw [HS.out]; rfl, by repeat (first | exact Ext.refl _ | refine Ext.alloc ?_ _ | assumption | refine Ext.over ?_ _ | refine Ext.drew ?_ | refine Ext.drewN ?_ _)⟩
    · have h3 : (broken l == -1) = true := by simp at h2; simp; omega
      have HS := hid (show sealed l = true by unfold sealed; rw [h2]; simp [h])
      clear hb
      (unfold Gives; go_enter Try.func41, Try.ntmps41)
      go_wp2_with (go_at_call 56; refine (sBroken_any _ _ _ l _ (hl.ext (by repeat (first | exact Ext.refl _ | refine Ext.alloc ?_ _ | assumption | refine Ext.over ?_ _ | refine Ext.drew ?_ | refine Ext.drewN ?_ _))) rfl hx hok).over.mono ?_; rintro e w' ⟨rfl, xw, rfl⟩)
      go_ret
      exact ⟨by rw [HS.out]; rfl, by repeat (first | exact Ext.refl _ | refine Ext.alloc ?_ _ | assumption | refine Ext.over ?_ _ | refine Ext.drew ?_ | refine Ext.drewN ?_ _)⟩
  · have HS := hid (show sealed l = false by unfold sealed; simp [h])
    clear hb
    (unfold Gives; go_enter Try.func41, Try.ntmps41)
    go_wp2_with fail
    go_ret
    exact ⟨by rw [HS.out]; rfl, by repeat (first | exact Ext.refl _ | refine Ext.alloc ?_ _ | assumption | refine Ext.over ?_ _ | refine Ext.drew ?_ | refine Ext.drewN ?_ _)⟩
end Go.Proofs.Ytmnpipbchcjgnaa
