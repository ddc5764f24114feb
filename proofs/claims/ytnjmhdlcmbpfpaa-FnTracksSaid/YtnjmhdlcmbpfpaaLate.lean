/- Walks: LateFrames. Conditions: sizes. -/
import Derived.Test.YtnjmhdlcmbpfpaaSeq
import Derived.Test.YtnjmhdlcmbpfpaaPush
namespace Go.Proofs.Ytnjmhdlcmbpfpaa
open Go.RowKit

theorem info_int : (Try.prog.info? 3).map (fun i => (i.zero, i.size, i.bytes)) = some (some (.int .i64 0), 1, 8) := by kernel_rfl
def fokAt (l : List T3) (k : Nat) : Bool := fok (at3 l k).a (at3 l k).b (at3 l k).c
def frames (l : List T3) : Bool := allN l.length (fokAt l) && decide (l.length ≤ 60)
theorem framesOk_any (A : Option Addr) (n c : Nat) (l : List T3) (w : World) (hl : Row w A (l.flatMap T3.v)) (hn : l.length = n) (hx : n ≤ 9223372036854775807) :
    Gives Try.prog 18 #[.slice A n c] w (.bool (frames l)) := by
  subst hn
  (unfold Gives; go_enter Try.func18, Try.ntmps18)
  go_wp2_with fail
  go_loopw [7] (fun i wr => ∃ (k : Nat), (∀ j, j < k → fokAt l j = true) ∧ k ≤ l.length ∧ i = .int .i64 ↑k ∧ Ext w wr) (fun i _ => (l.length - (intOf i).toNat))
  case atStart => exact ⟨0, by omega, by omega, rfl, Ext.refl _⟩
  case round =>
    obtain ⟨k, hk, hkn, rfl, he⟩ := hrel
    have HK := hid hk
    have HE := hid he
    obtain ⟨x, rfl⟩ := he.ex
    clear hk he
    by_cases hlt : k < l.length
    · obtain ⟨b, off, rfl, hc⟩ := hl.t3 hlt
      obtain ⟨c1, c2, c3⟩ := hc k (by omega)
      clear hc
      have he := HE.out
      cases hf : fok (at3 l k).a (at3 l k).b (at3 l k).c
      · go_wp2_with (go_at_call 30; refine (iFrameOk_any _ _ _ _).over.mono ?_; rintro e w' ⟨rfl, xw, rfl⟩)
        go_ret
        refine ⟨by rw [frames, allN_false hlt hf]; rfl, ?_⟩
        repeat (first | exact Ext.refl _ | refine Ext.alloc ?_ _ | assumption | refine Ext.over ?_ _ | refine Ext.drew ?_ | refine Ext.drewN ?_ _)
      · go_wp2_with (go_at_call 30; refine (iFrameOk_any _ _ _ _).over.mono ?_; rintro e w' ⟨rfl, xw, rfl⟩)
        go_roundw
        case rel =>
          refine ⟨k + 1, lt_succ_all HK.out hf, by omega, by go_num, ?_⟩
          repeat (first | exact Ext.refl _ | refine Ext.alloc ?_ _ | assumption | refine Ext.over ?_ _ | refine Ext.drew ?_ | refine Ext.drewN ?_ _)
        case measure => simp [intOf]; omega
    · go_wp2_with fail
      go_ret
      refine ⟨?_, HE.out⟩
      rw [frames, allN_true (fun j hj => HK.out j (by omega))]
      simp; omega
def late (l : List T3) (e g : Int) (k : Nat) : Bool :=
  decide (wrap64 (wrap64 ((at3 l 0).b + wrap64 (e * wrap64 ((at3 l k).a - (at3 l 0).a))) + g) < (at3 l k).b)
def lates (l : List T3) (e g : Int) : List Int := if frames l && btw e 1 1000 && btw g 0 1000 then idxs (late l e g) l.length else []
theorem lates_no {l : List T3} {e g : Int} (h : (frames l && btw e 1 1000 && btw g 0 1000) = false) : lates l e g = [] := by rw [lates, h]; rfl
theorem lates_yes {l : List T3} {e g : Int} (h1 : frames l = true) (h2 : btw e 1 1000 = true) (h3 : btw g 0 1000 = true) : lates l e g = idxs (late l e g) l.length := by rw [lates, h1, h2, h3]; rfl

theorem lates_len (l : List T3) (e g : Int) : (lates l e g).length ≤ l.length := by
  unfold lates
  split
  · exact idxs_len _ _
  · simp
theorem iLateFrames_any (A : Option Addr) (n c : Nat) (l : List T3) (e g : Int) (w : World) (hl : Row w A (l.flatMap T3.v)) (hn : l.length = n) (hx : n ≤ 1048577) :
    Calls Try.prog 10 #[.slice A n c, .int .i64 e, .int .i64 g] w fun en w' => ∃ A' m c', en = .returned (.slice A' m c') ∧ w'.ownsRow w.heap.size 3 1 (.slice A' m c') m ((lates l e g).map (Value.int .i64)) ∧ Ext w w' := by
  subst hn
  by_cases hall : (frames l && btw e 1 1000 && btw g 0 1000) = false
  · have HA := hid hall
    clear hall
    go_enter Try.func10, Try.ntmps10
    go_wp2_with (first | (go_at_call 18; refine (framesOk_any _ _ _ l _ (hl.ext (by first | exact Ext.refl _ | exact ovr_below _ _)) rfl (by omega)).over.mono ?_; rintro e w' ⟨rfl, xw, rfl⟩) | (go_at_call 22; refine (between_any _ _ _ _).over.mono ?_; rintro e w' ⟨rfl, xw, rfl⟩))
    rotate_left
    · exfalso
      have h := HA.out
      simp_all
    all_goals
      go_ret
      rw [lates_no HA.out]
      refine ⟨none, 0, 0, rfl, World.ownsRow_nil _ _ _ _, ?_⟩
      repeat (first | exact Ext.refl _ | refine Ext.alloc ?_ _ | assumption | refine Ext.over ?_ _ | refine Ext.drew ?_ | refine Ext.drewN ?_ _)
  · simp only [Bool.not_eq_false, Bool.and_eq_true] at hall
    obtain ⟨⟨h1, h2⟩, h3⟩ := hall
    have HY := hid (lates_yes h1 h2 h3)
    go_enter Try.func10, Try.ntmps10
    go_wp2_with (first | (go_at_call 18; refine (framesOk_any _ _ _ l _ (hl.ext (by first | exact Ext.refl _ | exact ovr_below _ _)) rfl (by omega)).over.mono ?_; rintro e w' ⟨rfl, xw, rfl⟩) | (go_at_call 22; refine (between_any _ _ _ _).over.mono ?_; rintro e w' ⟨rfl, xw, rfl⟩))
    go_loopw [7, 26] (fun o i wr => ∃ (k : Nat) (A' : Option Addr) (m c' : Nat), k ≤ l.length ∧ m ≤ k ∧ i = .int .i64 ↑k ∧ o = .slice A' m c' ∧ wr.ownsRow w.heap.size 3 1 (.slice A' m c') m ((idxs (late l e g) k).map (Value.int .i64)) ∧ Ext w wr) (fun _ i _ => (l.length - (intOf i).toNat))
    case atStart =>
      refine ⟨0, _, _, _, by omega, by omega, rfl, rfl, own_empty _ _ _ (by simp [ovr_size]) (by simp [ovr_size]; omega) _ _, ?_⟩
      repeat (first | exact Ext.refl _ | refine Ext.alloc ?_ _ | assumption | refine Ext.over ?_ _ | refine Ext.drew ?_ | refine Ext.drewN ?_ _)
    case round =>
      obtain ⟨k, A', m, c', hk, hm, rfl, rfl, hown, he⟩ := hrel
      obtain ⟨x, rfl⟩ := he.ex
      have HO := hid hown
      clear hown
      by_cases hlt : k < l.length
      · obtain ⟨b, off, rfl, hc⟩ := hl.t3 hlt
        obtain ⟨c1, c2, c3⟩ := hc k (by omega)
        obtain ⟨d1, d2, d3⟩ := hc 0 (by omega)
        simp only [Nat.zero_mul, Nat.add_zero] at d1 d2 d3
        clear hc hl
        cases hL : decide (wrap64 (wrap64 ((at3 l 0).b + wrap64 (e * wrap64 ((at3 l k).a - (at3 l 0).a))) + g) < (at3 l k).b)
        · go_wp2_with fail
          (refine wp_region_calm (by kernel_rfl) (by kernel_rfl) ?_; (repeat (go_big_quiet_step (fail))); refine wpQuiet_nil ?_; rintro w1 ⟨x1, rfl⟩)
          go_wp2_with fail
          go_roundw
          case rel =>
            refine ⟨k + 1, A', m, c', by omega, by omega, by go_num, rfl, ?_, ?_⟩
            · rw [idxs_no hL]
              refine own_ext HO.out ?_
              repeat (first | exact Ext.refl _ | refine Ext.alloc ?_ _ | assumption | refine Ext.over ?_ _ | refine Ext.drew ?_ | refine Ext.drewN ?_ _)
            · repeat (first | exact Ext.refl _ | refine Ext.alloc ?_ _ | assumption | refine Ext.over ?_ _ | refine Ext.drew ?_ | refine Ext.drewN ?_ _)
          case measure => simp [intOf]; omega
        · go_wp2_with fail
          (refine wp_region_calm (by kernel_rfl) (by kernel_rfl) ?_; (repeat (go_big_quiet_step (fail))); refine wpQuiet_nil ?_; rintro w1 ⟨x1, rfl⟩)
          go_wp2_with (at_builtin; refine wpList_push w rfl (.tmp 50) (.tmp 52) 26 rfl 3 Try.underlying26 info_int rfl (by decide) _ m _ rfl (ovr w x) HO.out (by repeat (first | exact Ext.refl _ | refine Ext.alloc ?_ _ | assumption | refine Ext.over ?_ _ | refine Ext.drew ?_ | refine Ext.drewN ?_ _)) (by repeat (first | exact Ext.refl _ | refine Ext.alloc ?_ _ | assumption | refine Ext.over ?_ _ | refine Ext.drew ?_ | refine Ext.drewN ?_ _)) _ 1 1 [.int .i64 k] rfl rfl (lit_cells _ _ (by simp [ovr_size]) _ _) (by intro u hu; simp at hu; subst hu; rfl) (by omega) (by decide) ?_)
          intro A2 c2 w2 hown2 he2
          have HO2 := hid hown2
          clear hown2 HO
          go_wp2_with fail
          go_roundw
          case rel =>
            refine ⟨k + 1, A2, m + 1, c2, by omega, by omega, by go_num, rfl, ?_, he2⟩
            rw [idxs_yes hL]
            simpa using HO2.out
          case measure => simp [intOf]; omega
      · go_wp2_with fail
        go_ret
        obtain rfl : k = l.length := by omega
        rw [HY.out]
        exact ⟨_, _, _, rfl, HO.out, he⟩

end Go.Proofs.Ytnjmhdlcmbpfpaa
