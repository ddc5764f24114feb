/- Walks: TrackOk. Conditions: sizes. -/
import Derived.Test.YtnjmhdlcmbpfpaaSeq
namespace Go.Proofs.Ytnjmhdlcmbpfpaa
open Go.RowKit

def sokAt (l : List T3) (k : Nat) : Bool := sok (at3 l k).a (at3 l k).b (at3 l k).c
def cb (l : List T3) (s : Int) (i k : Nat) : Bool := canBe (at3 l i).a (at3 l i).b (at3 l i).c (at3 l k).a (at3 l k).b (at3 l k).c s
def track (l : List T3) (s : Int) : Bool := allN l.length (fun k => sokAt l k && (decide (k = 0) || cb l s (k - 1) k)) && (decide (l.length = 0) || btw s 1 20)
theorem cb_sok {l : List T3} {s : Int} {i k : Nat} (h : cb l s i k = true) : sokAt l i = true ∧ sokAt l k = true ∧ btw s 1 20 = true := by
  unfold cb canBe at h
  simp only [Bool.and_eq_true] at h
  exact ⟨h.1.1.1.1, h.1.1.1.2, h.1.1.2⟩
theorem track_one {l : List T3} {s : Int} (h : l.length = 1) : track l s = (sokAt l 0 && btw s 1 20) := by
  unfold track
  rw [h]
  simp [allN]
theorem track_yes {l : List T3} {s : Int} (h1 : l.length ≠ 1) (h : ∀ j, j < l.length - 1 → cb l s j (j + 1) = true) : track l s = true := by
  unfold track
  rw [Bool.and_eq_true]
  constructor
  · refine allN_true fun j hj => ?_
    simp only [Bool.and_eq_true, Bool.or_eq_true, decide_eq_true_eq]
    by_cases h0 : j = 0
    · subst h0
      exact ⟨(cb_sok (h 0 (by omega))).1, .inl rfl⟩
    · have := h (j - 1) (by omega)
      rw [show j - 1 + 1 = j from by omega] at this
      exact ⟨(cb_sok this).2.1, .inr this⟩
  · by_cases h0 : l.length = 0
    · simp [h0]
    · rw [(cb_sok (h 0 (by omega))).2.2]; simp
theorem track_no {l : List T3} {s : Int} {j : Nat} (hj : j + 1 < l.length) (h : cb l s j (j + 1) = false) : track l s = false := by
  unfold track
  rw [allN_false (k := j + 1) hj (by simp [h])]
  rfl
theorem iTrackOk_any (A : Option Addr) (n c : Nat) (l : List T3) (s : Int) (w : World) (hl : Row w A (l.flatMap T3.v)) (hn : l.length = n) (hx : n ≤ 9223372036854775807) :
    Gives Try.prog 15 #[.slice A n c, .int .i64 s] w (.bool (track l s)) := by
  subst hn
  by_cases h1 : l.length = 1
  · obtain ⟨b, off, rfl, hc⟩ := hl.t3 (i := 0) (by omega)
    obtain ⟨c1, c2, c3⟩ := hc 0 (by omega)
    simp only [Nat.zero_mul, Nat.add_zero] at c1 c2 c3
    clear hc hl
    have HT := hid (track_one (s := s) h1)
    rw [h1]
    clear h1
    unfold sokAt at HT
    (unfold Gives; go_enter Try.func15, Try.ntmps15)
    go_wp2_with (first | (go_at_call 27; refine (iSightingOk_any _ _ _ _).over.mono ?_; rintro e w' ⟨rfl, xw, rfl⟩) | (go_at_call 22; refine (between_any _ _ _ _).over.mono ?_; rintro e w' ⟨rfl, xw, rfl⟩))
    all_goals
      go_ret
      rw [HT.out]
      refine ⟨by go_tidy; simp_all, ?_⟩
      repeat (first | exact Ext.refl _ | refine Ext.alloc ?_ _ | assumption | refine Ext.over ?_ _ | refine Ext.drew ?_ | refine Ext.drewN ?_ _)
  · have hb : (((l.length : Nat) : Int) == 1) = false := by simp; omega
    (unfold Gives; go_enter Try.func15, Try.ntmps15)
    go_wp2_with fail
    go_loopw [5] (fun i wr => ∃ (k : Nat), (∀ j, j < k → cb l s j (j + 1) = true) ∧ k ≤ l.length - 1 ∧ i = .int .i64 (↑k + 1) ∧ Ext w wr) (fun i _ => (l.length - (intOf i).toNat))
    case atStart => exact ⟨0, by omega, by omega, rfl, Ext.refl _⟩
    case round =>
      obtain ⟨k, hk, hkn, rfl, he⟩ := hrel
      have HK := hid hk
      obtain ⟨x, rfl⟩ := he.ex
      clear hk
      by_cases hlt : k + 1 < l.length
      · obtain ⟨b, off, rfl, hc⟩ := hl.t3 hlt
        obtain ⟨c1, c2, c3⟩ := hc k (by omega)
        obtain ⟨d1, d2, d3⟩ := hc (k + 1) hlt
        clear hc
        cases hcb : canBe (at3 l k).a (at3 l k).b (at3 l k).c (at3 l (k + 1)).a (at3 l (k + 1)).b (at3 l (k + 1)).c s
        · go_wp2_with fail
          (refine wp_region_calm (by kernel_rfl) (by kernel_rfl) ?_; (repeat (go_big_quiet_step ((go_at_call 13; exact (iCanBeSame_any _ _ _ _ _ _ _ _).calm)))); refine wpQuiet_nil ?_; rintro w1 ⟨x1, rfl⟩)
          go_wp2_with fail
          go_ret
          refine ⟨by rw [track_no hlt hcb]; rfl, ?_⟩
          repeat (first | exact Ext.refl _ | refine Ext.alloc ?_ _ | assumption | refine Ext.over ?_ _ | refine Ext.drew ?_ | refine Ext.drewN ?_ _)
        · go_wp2_with fail
          (refine wp_region_calm (by kernel_rfl) (by kernel_rfl) ?_; (repeat (go_big_quiet_step ((go_at_call 13; exact (iCanBeSame_any _ _ _ _ _ _ _ _).calm)))); refine wpQuiet_nil ?_; rintro w1 ⟨x1, rfl⟩)
          go_wp2_with fail
          go_roundw
          case rel =>
            refine ⟨k + 1, lt_succ_all HK.out hcb, by omega, by go_num, ?_⟩
            repeat (first | exact Ext.refl _ | refine Ext.alloc ?_ _ | assumption | refine Ext.over ?_ _ | refine Ext.drew ?_ | refine Ext.drewN ?_ _)
          case measure => simp [intOf]; omega
      · go_wp2_with fail
        go_ret
        exact ⟨by rw [track_yes h1 (fun j hj => HK.out j (by omega))]; rfl, he⟩
end Go.Proofs.Ytnjmhdlcmbpfpaa
