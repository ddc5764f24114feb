/- The walk of FnTracks: it returns true. Conditions: its arguments read as lists. (P28) -/
import Derived.Test.YtnjmhdlcmbpfpaaTracksP
import Derived.Test.YtnjmhdlcmbpfpaaLawB
import Derived.Test.YtnjmhdlcmbpfpaaGives
namespace Go.Proofs.Ytnjmhdlcmbpfpaa
open Go.RowKit
set_option linter.unusedVariables false
namespace fnTracks
set_option maxHeartbeats 3200000 in
set_option maxRecDepth 100000 in
theorem walk (w : World) (A0 : Option Addr) (n0 c0 : Nat) (zs0 : List Int) (hr0 : Row w A0 (zs0.map (Value.int .u8))) (hl0 : zs0.length = n0) (hn0 : n0 ≤ maxLen) (hz0 : ∀ z ∈ zs0, 0 ≤ z ∧ z ≤ 255) : Gives Try.prog 4 #[.slice A0 n0 c0] w (.bool true) := by
  unfold maxLen at hn0
  have HZ := hid hz0
  clear hz0
  by_cases hbig : (1048576 : Int) < n0
  · have hb := decide_eq_true hbig
    (unfold Gives; go_enter Try.func4, Try.ntmps4)
    go_wp2_with (go_at_call 5; refine (gives_b hb (big_any _ _ _ _)).over.mono ?_; rintro e w' ⟨rfl, xw, rfl⟩)
    go_ret
    exact ⟨rfl, by repeat (first | exact Ext.refl _ | refine Ext.alloc ?_ _ | assumption | refine Ext.over ?_ _ | refine Ext.drew ?_ | refine Ext.drewN ?_ _)⟩
  have hb := decide_eq_false hbig
  (unfold Gives; go_enter Try.func4, Try.ntmps4)
  go_wp2_with (go_at_call 5; refine (gives_b hb (big_any _ _ _ _)).over.mono ?_; rintro e w' ⟨rfl, xw, rfl⟩)
  refine (DrawSightings_any A0 n0 c0 zs0 _ (hr0.ext (by repeat (first | exact Ext.refl _ | refine Ext.alloc ?_ _ | assumption | refine Ext.over ?_ _ | refine Ext.drew ?_ | refine Ext.drewN ?_ _))) hl0 (by omega) HZ.out).mono ?_
  rintro _ w1 ⟨B, n, c, l, s, rfl, hll, hf, hs, hR, he⟩
  have HF := hid hf
  have HE := hid (Ext.trans (show Ext w _ by repeat (first | exact Ext.refl _ | refine Ext.alloc ?_ _ | assumption | refine Ext.over ?_ _ | refine Ext.drew ?_ | refine Ext.drewN ?_ _)) he)
  have HL := hid hR
  have HLL := hid hll
  have hn8 : n ≤ 8 := by have := hf.1; omega
  have hf1 := hf.few (s := s) (by omega)
  have hf2 := hf.mst (s := s) (by omega)
  have hf3 := hf.few (s := s + 1) (by omega)
  have hle := trk_le l s
  have hmo := trk_mono (l := l) (s := s) (by omega)
  have hle2 := trk_le l (s + 1)
  have HPOS := hid (fun h => trk_pos (l := l) (s := s) h)
  have HTR := hid (fun h => trk_track (l := l) (s := s) h)
  rw [hll] at hle HPOS HTR hle2
  generalize trk l s = f at hf1 hf2 hle hmo HPOS HTR
  generalize trk l (s + 1) = f2 at hf3 hmo hle2
  clear hf he hll hbig hb hR
  go_wp2_with fail
  refine (gives_v hf1 (iFewest_any B n c l s w1 HL.out HLL.out (by omega))).mono ?_
  rintro _ w2 ⟨rfl, he2⟩
  have HE2 := hid (HE.out.trans he2)
  have HL2 := hid (HL.out.ext he2)
  clear he2 HE HL
  go_wp2_with fail
  go_loopw [6] (fun iv wr => ∃ (i : Nat), i ≤ n ∧ iv = .int .i64 ↑i ∧ Ext w2 wr) (fun iv _ => n - (intOf iv).toNat)
  case atStart => exact ⟨0, by omega, rfl, Ext.refl _⟩
  case round =>
    rename World => wa
    obtain ⟨i, hi, rfl, he⟩ := hrel
    have HEA := hid he
    clear he
    by_cases hlt : i < n
    · have hit : (i : Int) < n := by omega
      go_wp2_with fail
      go_loopw [7] (fun jv wr => ∃ (j : Nat), j ≤ n ∧ jv = .int .i64 ↑j ∧ Ext wa wr) (fun jv _ => n - (intOf jv).toNat)
      case atStart => exact ⟨0, by omega, rfl, Ext.refl _⟩
      case round =>
        rename World => wb
        obtain ⟨j, hj, rfl, he⟩ := hrel
        have HEB := hid he
        clear he
        by_cases hltj : j < n
        · have hjt : (j : Int) < n := by omega
          go_wp2_with fail
          go_loopw [8] (fun kv wr => ∃ (k : Nat), k ≤ n ∧ kv = .int .i64 ↑k ∧ Ext wb wr) (fun kv _ => n - (intOf kv).toNat)
          case atStart => exact ⟨0, by omega, rfl, Ext.refl _⟩
          case round =>
            rename World => wc
            obtain ⟨k, hk, rfl, he⟩ := hrel
            have HEC := hid he
            have HLC := hid (HL2.out.ext (HEA.out.trans (HEB.out.trans he)))
            clear he
            by_cases hltk : k < n
            · have hkt : (k : Int) < n := by omega
              obtain ⟨bk, off, hB, hc⟩ := HLC.out.t3 (i := i) (by have := HLL.out; omega)
              obtain ⟨a0, a1, a2⟩ := hc i (by have := HLL.out; omega)
              obtain ⟨b0, b1, b2⟩ := hc j (by have := HLL.out; omega)
              obtain ⟨d0, d1, d2⟩ := hc k (by have := HLL.out; omega)
              have HTRN := hid (fun (h1 : canBe (at3 l i).a (at3 l i).b (at3 l i).c (at3 l j).a (at3 l j).b (at3 l j).c s = true) (h2 : canBe (at3 l j).a (at3 l j).b (at3 l j).c (at3 l k).a (at3 l k).b (at3 l k).c s = true) => canBe_trans h1 h2)
              subst hB
              clear hc
              generalize at3 l i = x at a0 a1 a2 HTRN
              generalize at3 l j = y at b0 b1 b2 HTRN
              generalize at3 l k = z at d0 d1 d2 HTRN
              cases h1 : canBe x.a x.b x.c y.a y.b y.c s
              · go_wp2_with fail
                (refine wp_region_calm (by kernel_rfl) (by kernel_rfl) ?_; (repeat (go_big_quiet_step ((go_at_call 13; exact (iCanBe_of h1 _).calm)))); refine wpQuiet_nil ?_; rintro w1 ⟨x1, rfl⟩)
                go_wp2_with fail
                go_roundw
                case rel => exact ⟨k + 1, by omega, by go_num, HEC.out.trans (by repeat (first | exact Ext.refl _ | refine Ext.alloc ?_ _ | assumption | refine Ext.over ?_ _ | refine Ext.drew ?_ | refine Ext.drewN ?_ _))⟩
                case measure => simp [intOf]; omega
              cases h2 : canBe y.a y.b y.c z.a z.b z.c s
              · go_wp2_with fail
                (refine wp_region_calm (by kernel_rfl) (by kernel_rfl) ?_; (repeat (go_big_quiet_step ((go_at_call 13; exact (iCanBe_of (by assumption) _).calm)))); refine wpQuiet_nil ?_; rintro w1 ⟨x1, rfl⟩)
                go_wp2_with fail
                go_roundw
                case rel => exact ⟨k + 1, by omega, by go_num, HEC.out.trans (by repeat (first | exact Ext.refl _ | refine Ext.alloc ?_ _ | assumption | refine Ext.over ?_ _ | refine Ext.drew ?_ | refine Ext.drewN ?_ _))⟩
                case measure => simp [intOf]; omega
              · have h3 := HTRN.out h1 h2
                go_wp2_with fail
                (refine wp_region_calm (by kernel_rfl) (by kernel_rfl) ?_; (repeat (go_big_quiet_step ((go_at_call 13; exact (iCanBe_of (by assumption) _).calm)))); refine wpQuiet_nil ?_; rintro w1 ⟨x1, rfl⟩)
                go_wp2_with fail
                go_roundw
                case rel => exact ⟨k + 1, by omega, by go_num, HEC.out.trans (by repeat (first | exact Ext.refl _ | refine Ext.alloc ?_ _ | assumption | refine Ext.over ?_ _ | refine Ext.drew ?_ | refine Ext.drewN ?_ _))⟩
                case measure => simp [intOf]; omega
            · obtain rfl : k = n := by omega
              have hkt : ¬ (k : Int) < k := by omega
              go_wp2_with fail
              go_roundw
              case rel => exact ⟨j + 1, by omega, by go_num, HEB.out.trans HEC.out⟩
              case measure => simp [intOf]; omega
        · obtain rfl : j = n := by omega
          have hkt : ¬ (j : Int) < j := by omega
          go_wp2_with fail
          go_roundw
          case rel => exact ⟨i + 1, by omega, by go_num, HEA.out.trans HEB.out⟩
          case measure => simp [intOf]; omega
    · obtain rfl : i = n := by omega
      have hkt : ¬ (i : Int) < i := by omega
      have HLA := hid (HL2.out.ext HEA.out)
      have hs20 : s + 1 ≤ 4 := by omega
      cases ht : track l s
      all_goals
        by_cases hz : i = 0
        · subst hz
          obtain rfl : f = 0 := by omega
          have hf20 : f2 ≤ 0 := by omega
          have hmin : min (1 : Int) (((0 : Nat) : Int)) = 0 := by decide
          go_wp2_with (first | (go_at_call 14; refine (gives_v hf2 (iMostApart_any B 0 c l s _ (HLA.out.ext (by repeat (first | exact Ext.refl _ | refine Ext.alloc ?_ _ | assumption | refine Ext.over ?_ _ | refine Ext.drew ?_ | refine Ext.drewN ?_ _))) HLL.out (by omega))).over.mono ?_; rintro e w' ⟨rfl, xw, rfl⟩) | (go_at_call 15; refine (gives_b ht (iTrackOk_any B 0 c l s _ (HLA.out.ext (by repeat (first | exact Ext.refl _ | refine Ext.alloc ?_ _ | assumption | refine Ext.over ?_ _ | refine Ext.drew ?_ | refine Ext.drewN ?_ _))) HLL.out (by omega))).over.mono ?_; rintro e w' ⟨rfl, xw, rfl⟩) | (go_at_call 12; refine (gives_v hf3 (iFewest_any B 0 c l (s + 1) _ (HLA.out.ext (by repeat (first | exact Ext.refl _ | refine Ext.alloc ?_ _ | assumption | refine Ext.over ?_ _ | refine Ext.drew ?_ | refine Ext.drewN ?_ _))) HLL.out (by omega))).over.mono ?_; rintro e w' ⟨rfl, xw, rfl⟩))
          go_ret
          exact ⟨rfl, HE2.out.trans (HEA.out.trans (by repeat (first | exact Ext.refl _ | refine Ext.alloc ?_ _ | assumption | refine Ext.over ?_ _ | refine Ext.drew ?_ | refine Ext.drewN ?_ _)))⟩
        · have hf1' := HPOS.out (by omega)
          have hz1 : (f == 0) = false := by rw [beq_eq_false_iff_ne]; omega
          have hz2 : ((i : Int) == 0) = false := by rw [beq_eq_false_iff_ne]; omega
          have hz3 : track l s = true → f = 1 := fun h => by have := HTR.out h; omega
          first
          | (have hz4 := hz3 ht
             have hmin : min (1 : Int) (i : Int) = 1 := by omega
             subst hz4
             have hi1 : (1 : Int) ≤ i := by omega
             go_wp2_with (first | (go_at_call 14; refine (gives_v hf2 (iMostApart_any B i c l s _ (HLA.out.ext (by repeat (first | exact Ext.refl _ | refine Ext.alloc ?_ _ | assumption | refine Ext.over ?_ _ | refine Ext.drew ?_ | refine Ext.drewN ?_ _))) HLL.out (by omega))).over.mono ?_; rintro e w' ⟨rfl, xw, rfl⟩) | (go_at_call 15; refine (gives_b ht (iTrackOk_any B i c l s _ (HLA.out.ext (by repeat (first | exact Ext.refl _ | refine Ext.alloc ?_ _ | assumption | refine Ext.over ?_ _ | refine Ext.drew ?_ | refine Ext.drewN ?_ _))) HLL.out (by omega))).over.mono ?_; rintro e w' ⟨rfl, xw, rfl⟩) | (go_at_call 12; refine (gives_v hf3 (iFewest_any B i c l (s + 1) _ (HLA.out.ext (by repeat (first | exact Ext.refl _ | refine Ext.alloc ?_ _ | assumption | refine Ext.over ?_ _ | refine Ext.drew ?_ | refine Ext.drewN ?_ _))) HLL.out (by omega))).over.mono ?_; rintro e w' ⟨rfl, xw, rfl⟩))
             go_ret
             exact ⟨rfl, HE2.out.trans (HEA.out.trans (by repeat (first | exact Ext.refl _ | refine Ext.alloc ?_ _ | assumption | refine Ext.over ?_ _ | refine Ext.drew ?_ | refine Ext.drewN ?_ _)))⟩)
          | (clear hz3
             go_wp2_with (first | (go_at_call 14; refine (gives_v hf2 (iMostApart_any B i c l s _ (HLA.out.ext (by repeat (first | exact Ext.refl _ | refine Ext.alloc ?_ _ | assumption | refine Ext.over ?_ _ | refine Ext.drew ?_ | refine Ext.drewN ?_ _))) HLL.out (by omega))).over.mono ?_; rintro e w' ⟨rfl, xw, rfl⟩) | (go_at_call 15; refine (gives_b ht (iTrackOk_any B i c l s _ (HLA.out.ext (by repeat (first | exact Ext.refl _ | refine Ext.alloc ?_ _ | assumption | refine Ext.over ?_ _ | refine Ext.drew ?_ | refine Ext.drewN ?_ _))) HLL.out (by omega))).over.mono ?_; rintro e w' ⟨rfl, xw, rfl⟩) | (go_at_call 12; refine (gives_v hf3 (iFewest_any B i c l (s + 1) _ (HLA.out.ext (by repeat (first | exact Ext.refl _ | refine Ext.alloc ?_ _ | assumption | refine Ext.over ?_ _ | refine Ext.drew ?_ | refine Ext.drewN ?_ _))) HLL.out (by omega))).over.mono ?_; rintro e w' ⟨rfl, xw, rfl⟩))
             go_ret
             exact ⟨rfl, HE2.out.trans (HEA.out.trans (by repeat (first | exact Ext.refl _ | refine Ext.alloc ?_ _ | assumption | refine Ext.over ?_ _ | refine Ext.drew ?_ | refine Ext.drewN ?_ _)))⟩)
end fnTracks
end Go.Proofs.Ytnjmhdlcmbpfpaa
