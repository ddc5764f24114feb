/- Walks: loops over frames and sightings that only read. Conditions: lengths within int. -/
import Derived.Test.YtnjmhdlcmbpfpaaNum
import Derived.Test.YtnjmhdlcmbpfpaaRowM
namespace Go.Proofs.Ytnjmhdlcmbpfpaa
open Go.RowKit

def ordAt (l : List T3) (k : Nat) : Bool := decide ((at3 l k).a < (at3 l (k + 1)).a) && decide ((at3 l k).b < (at3 l (k + 1)).b)
def isOrd (l : List T3) : Bool := allN (l.length - 1) (ordAt l)
theorem iIsOrdered_any (A : Option Addr) (n c : Nat) (l : List T3) (w : World) (hl : Row w A (l.flatMap T3.v)) (hn : l.length = n) (hx : n ≤ 9223372036854775807) :
    Gives Try.prog 8 #[.slice A n c] w (.bool (isOrd l)) := by
  subst hn
  (unfold Gives; go_enter Try.func8, Try.ntmps8)
  go_wp2_with fail
  go_loopw [3] (fun i wr => ∃ (k : Nat), (∀ j, j < k → ordAt l j = true) ∧ k ≤ l.length - 1 ∧ i = .int .i64 (↑k + 1) ∧ Ext w wr) (fun i _ => (l.length - (intOf i).toNat))
  case atStart => exact ⟨0, by omega, by omega, rfl, Ext.refl _⟩
  case round =>
    obtain ⟨k, hk, hkn, rfl, he⟩ := hrel
    have HK := hid hk
    have HE := hid he
    obtain ⟨x, rfl⟩ := he.ex
    clear hk he
    by_cases hlt : k + 1 < l.length
    · obtain ⟨b, off, rfl, hc⟩ := hl.t3 hlt
      obtain ⟨c1, c2, c3⟩ := hc k (by omega)
      obtain ⟨d1, d2, d3⟩ := hc (k + 1) hlt
      clear hc
      cases h1 : decide ((at3 l (k + 1)).a ≤ (at3 l k).a)
      · cases h2 : decide ((at3 l (k + 1)).b ≤ (at3 l k).b)
        · go_wp2_with fail
          (refine wp_region_calm (by kernel_rfl) (by kernel_rfl) ?_; (repeat (go_big_quiet_step (fail))); refine wpQuiet_nil ?_; rintro w1 ⟨x1, rfl⟩)
          go_wp2_with fail
          go_roundw
          case rel => exact ⟨k + 1, lt_succ_all HK.out (by simp at h1 h2; unfold ordAt; simp; omega), by omega, by go_num, HE.out.over _⟩
          case measure => simp [intOf]; omega
        · go_wp2_with fail
          (refine wp_region_calm (by kernel_rfl) (by kernel_rfl) ?_; (repeat (go_big_quiet_step (fail))); refine wpQuiet_nil ?_; rintro w1 ⟨x1, rfl⟩)
          go_wp2_with fail
          go_ret
          exact ⟨by rw [isOrd, allN_false (k := k) (by omega) (by simp at h2; unfold ordAt; simp; omega)]; rfl, HE.out.over _⟩
      · go_wp2_with fail
        (refine wp_region_calm (by kernel_rfl) (by kernel_rfl) ?_; (repeat (go_big_quiet_step (fail))); refine wpQuiet_nil ?_; rintro w1 ⟨x1, rfl⟩)
        go_wp2_with fail
        go_ret
        exact ⟨by rw [isOrd, allN_false (k := k) (by omega) (by simp at h1; unfold ordAt; simp; omega)]; rfl, HE.out.over _⟩
    · go_wp2_with fail
      go_ret
      refine ⟨?_, HE.out⟩
      rw [isOrd, allN_true (fun j hj => HK.out j (by omega))]
      rfl
def hit (l : List T3) (k i : Nat) : Bool := (at3 l i).c == (at3 l (k - 1)).c && (at3 l (i + 1)).c == (at3 l k).c
def replAt (l : List T3) (k : Nat) : Bool := !allN (k - 2) (fun i => !hit l k i)
def repl (l : List T3) : Int := firstN l.length (replAt l)
theorem replAt_small (l : List T3) (k : Nat) (h : k < 3) : replAt l k = false := by
  unfold replAt
  rw [show k - 2 = 0 from by omega]
  rfl
theorem iReplayedAt_any (A : Option Addr) (n c : Nat) (l : List T3) (w : World) (hl : Row w A (l.flatMap T3.v)) (hn : l.length = n) (hx : n ≤ 9223372036854775807) :
    Gives Try.prog 9 #[.slice A n c] w (.int .i64 (repl l)) := by
  subst hn
  (unfold Gives; go_enter Try.func9, Try.ntmps9)
  go_wp2_with fail
  go_loopw [3] (fun i wr => ∃ (k : Nat), 3 ≤ k ∧ (∀ j, j < k → replAt l j = false) ∧ i = .int .i64 ↑k ∧ Ext w wr) (fun i _ => (l.length - (intOf i).toNat))
  case atStart => exact ⟨3, Nat.le_refl _, fun j hj => replAt_small l j (by omega), rfl, Ext.refl _⟩
  case round =>
    obtain ⟨k, hk3, hk, rfl, he⟩ := hrel
    have HK := hid hk
    have HE := hid he
    obtain ⟨x, rfl⟩ := he.ex
    clear hk he
    by_cases hlt : k < l.length
    · obtain ⟨b, off, rfl, hc⟩ := hl.t3 hlt
      obtain ⟨-, -, d1⟩ := hc (k - 1) (by omega)
      obtain ⟨-, -, d2⟩ := hc k hlt
      go_wp2_with fail
      go_loopw [4] (fun i wr => ∃ (j : Nat), (∀ q, q < j → hit l k q = false) ∧ i = .int .i64 ↑j ∧ j ≤ k ∧ Ext w wr) (fun i _ => (k - (intOf i).toNat))
      case atStart => exact ⟨0, by omega, rfl, by omega, HE.out⟩
      case round =>
        obtain ⟨j, hj, rfl, hjk, he⟩ := hrel
        have HJ := hid hj
        have HE' := hid he
        obtain ⟨x, rfl⟩ := he.ex
        clear hj he HE
        by_cases hj2 : j + 1 < k - 1
        · obtain ⟨-, -, c1⟩ := hc j (by omega)
          obtain ⟨-, -, c2⟩ := hc (j + 1) (by omega)
          clear hc
          cases h1 : ((at3 l j).c == (at3 l (k - 1)).c)
          · go_wp2_with fail
            (refine wp_region_calm (by kernel_rfl) (by kernel_rfl) ?_; (repeat (go_big_quiet_step (fail))); refine wpQuiet_nil ?_; rintro w1 ⟨x1, rfl⟩)
            go_wp2_with fail
            go_roundw
            case rel => exact ⟨j + 1, lt_succ_all HJ.out (by unfold hit; rw [h1]; rfl), by go_num, by omega, HE'.out.over _⟩
            case measure => simp [intOf]; omega
          · cases h2 : ((at3 l (j + 1)).c == (at3 l k).c)
            · go_wp2_with fail
              (refine wp_region_calm (by kernel_rfl) (by kernel_rfl) ?_; (repeat (go_big_quiet_step (fail))); refine wpQuiet_nil ?_; rintro w1 ⟨x1, rfl⟩)
              go_wp2_with fail
              go_roundw
              case rel => exact ⟨j + 1, lt_succ_all HJ.out (by unfold hit; rw [h1, h2]; rfl), by go_num, by omega, HE'.out.over _⟩
              case measure => simp [intOf]; omega
            · go_wp2_with fail
              (refine wp_region_calm (by kernel_rfl) (by kernel_rfl) ?_; (repeat (go_big_quiet_step (fail))); refine wpQuiet_nil ?_; rintro w1 ⟨x1, rfl⟩)
              go_wp2_with fail
              go_ret
              refine ⟨?_, HE'.out.over _⟩
              rw [repl, firstN_hit HK.out hlt (by unfold replAt; rw [allN_false (k := j) (by omega) (by unfold hit; rw [h1, h2]; rfl)]; rfl)]
              rfl
        · clear hc
          go_wp2_with fail
          go_roundw
          case rel => exact ⟨k + 1, by omega, lt_succ_all HK.out (by unfold replAt; rw [allN_true (fun q hq => by rw [HJ.out q (by omega)]; rfl)]; rfl), by go_num, HE'.out⟩
          case measure => simp [intOf]; omega
    · go_wp2_with fail
      go_ret
      refine ⟨?_, HE.out⟩
      rw [repl, firstN_none (fun j hj => HK.out j (by omega))]
      rfl
end Go.Proofs.Ytnjmhdlcmbpfpaa
