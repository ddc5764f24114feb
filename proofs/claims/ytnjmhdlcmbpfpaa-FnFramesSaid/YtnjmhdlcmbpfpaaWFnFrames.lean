/- The walk of FnFrames: it returns true. Conditions: its arguments read as lists. (P27) -/
import Derived.Test.YtnjmhdlcmbpfpaaFramesP
import Derived.Test.YtnjmhdlcmbpfpaaLawB
import Derived.Test.YtnjmhdlcmbpfpaaMiss
import Derived.Test.YtnjmhdlcmbpfpaaSeq
import Derived.Test.YtnjmhdlcmbpfpaaHer4
import Derived.Test.YtnjmhdlcmbpfpaaGives
import Derived.Test.YtnjmhdlcmbpfpaaHer7
import Derived.Test.YtnjmhdlcmbpfpaaRest
namespace Go.Proofs.Ytnjmhdlcmbpfpaa
open Go.RowKit
set_option linter.unusedVariables false
namespace fnFrames
theorem two_ways3 {G P : Prop} (h : P → G) (p : P) : G := h p
def tri (a b c : Int) : T3 := ⟨a, b, c⟩
theorem one3 {l : List T3} : ∀ u ∈ l.flatMap T3.v, u.oneCell' = true := by
  intro u hu
  obtain ⟨x, _, hx⟩ := List.mem_flatMap.1 hu
  simp only [T3.v, List.mem_cons, List.not_mem_nil, or_false] at hx
  rcases hx with rfl | rfl | rfl <;> rfl
set_option maxHeartbeats 3200000 in
set_option maxRecDepth 100000 in
theorem walk (w : World) (A0 : Option Addr) (n0 c0 : Nat) (zs0 : List Int) (hr0 : Row w A0 (zs0.map (Value.int .u8))) (hl0 : zs0.length = n0) (hn0 : n0 ≤ maxLen) (hz0 : ∀ z ∈ zs0, 0 ≤ z ∧ z ≤ 255) : Gives Try.prog 3 #[.slice A0 n0 c0] w (.bool true) := by
  unfold maxLen at hn0
  have HZ := hid hz0
  clear hz0
  by_cases hbig : (1048576 : Int) < n0
  · have hb := decide_eq_true hbig
    (unfold Gives; go_enter Try.func3, Try.ntmps3)
    go_wp2_with (go_at_call 5; refine (gives_b hb (big_any _ _ _ _)).over.mono ?_; rintro e w' ⟨rfl, xw, rfl⟩)
    go_ret
    exact ⟨rfl, by repeat (first | exact Ext.refl _ | refine Ext.alloc ?_ _ | assumption | refine Ext.over ?_ _ | refine Ext.drew ?_ | refine Ext.drewN ?_ _)⟩
  have hb := decide_eq_false hbig
  (unfold Gives; go_enter Try.func3, Try.ntmps3)
  go_wp2_with (go_at_call 5; refine (gives_b hb (big_any _ _ _ _)).over.mono ?_; rintro e w' ⟨rfl, xw, rfl⟩)
  refine (DrawFrames_any A0 n0 c0 zs0 _ (hr0.ext (by repeat (first | exact Ext.refl _ | refine Ext.alloc ?_ _ | assumption | refine Ext.over ?_ _ | refine Ext.drew ?_ | refine Ext.drewN ?_ _))) hl0 (by omega) HZ.out).mono ?_
  rintro _ w1 ⟨B, n, c, l, rfl, hll, hf, ho, he⟩
  have HF := hid hf
  have HE := hid (Ext.trans (show Ext w _ by repeat (first | exact Ext.refl _ | refine Ext.alloc ?_ _ | assumption | refine Ext.over ?_ _ | refine Ext.drew ?_ | refine Ext.drewN ?_ _)) he)
  have HL := hid (Row.of_own ho)
  have HO := hid (hf.ord)
  have hn9 : n ≤ 9 := by have := hf.1; omega
  have HLL := hid hll
  clear hf ho he hll hbig hb
  go_wp2_with fail
  refine (iMissing_any B n c l w1 HL.out HLL.out (by omega)).mono ?_
  rintro _ w2 ⟨D, q, c2, rfl, ho, he⟩
  have hq := own_len ho
  have HM := hid (Row.of_own ho)
  have HE2 := hid (HE.out.trans he)
  have HL2 := hid (HL.out.ext he)
  have hq5 := miss_len l
  clear ho he HE HL
  by_cases h2 : n < 2
  · have hs := HF.out.short (by have := HLL.out; omega)
    have hq0 : q = 0 := by rw [← hq, hs.1]; rfl
    have hr := hs.2
    have hn2 : (n : Int) < 2 := by omega
    subst hq0
    clear hs hq
    go_wp2_with (first | (go_at_call 8; refine (gives_b HO.out (iIsOrdered_any B n c l _ (HL2.out.ext (by repeat (first | exact Ext.refl _ | refine Ext.alloc ?_ _ | assumption | refine Ext.over ?_ _ | refine Ext.drew ?_ | refine Ext.drewN ?_ _))) HLL.out (by omega))).over.mono ?_; rintro e w' ⟨rfl, xw, rfl⟩) | (go_at_call 9; refine (gives_v hr (iReplayedAt_any B n c l _ (HL2.out.ext (by repeat (first | exact Ext.refl _ | refine Ext.alloc ?_ _ | assumption | refine Ext.over ?_ _ | refine Ext.drew ?_ | refine Ext.drewN ?_ _))) HLL.out (by omega))).over.mono ?_; rintro e w' ⟨rfl, xw, rfl⟩))
    go_ret
    exact ⟨rfl, HE2.out.trans (by repeat (first | exact Ext.refl _ | refine Ext.alloc ?_ _ | assumption | refine Ext.over ?_ _ | refine Ext.drew ?_ | refine Ext.drewN ?_ _))⟩
  have hn2 : ¬ (n : Int) < 2 := by omega
  go_wp2_with fail
  refine (gives_b HO.out (iIsOrdered_any B n c l _ HL2.out HLL.out (by omega))).mono ?_
  rintro _ w3 ⟨rfl, he3⟩
  have HE3 := hid (HE2.out.trans he3)
  have HL3 := hid (HL2.out.ext he3)
  have HM3 := hid (HM.out.ext he3)
  clear he3 HE2 HL2 HM
  obtain ⟨bk, off, hB, hc⟩ := HL3.out.t3 (i := 0) (by have := HLL.out; omega)
  obtain ⟨x0, x1, x2⟩ := hc 0 (by have := HLL.out; omega)
  obtain ⟨y0, y1, y2⟩ := hc 1 (by have := HLL.out; omega)
  obtain ⟨z0, z1, z2⟩ := hc (n - 1) (by have := HLL.out; omega)
  rw [show off + 0 * 3 = off by omega] at x0 x1 x2
  rw [show off + 1 * 3 = off + 3 by omega] at y0 y1 y2
  have bz := HF.out.at (k := n - 1) (by have := HLL.out; omega)
  have bx := HF.out.at (k := 0) (by have := HLL.out; omega)
  have HAG := hid (show againL l = l ++ [⟨(at3 l (n - 1)).a + 1, (at3 l (n - 1)).b + 1, (at3 l 0).c⟩, ⟨(at3 l (n - 1)).a + 2, (at3 l (n - 1)).b + 2, (at3 l 1).c⟩] by unfold againL; rw [HLL.out])
  have hcnt := HF.out.count (by have := HLL.out; omega)
  rw [hq, HLL.out] at hcnt
  have HMA := hid (fun i (hi : i < q) => HF.out.missAt (by have := HLL.out; omega) (i := i) (by rw [hq]; exact hi))
  rw [HLL.out] at HMA
  have HRP := hid (again_repl (l := l) (by have := HLL.out; omega))
  subst hB
  clear hc
  generalize (at3 l (n - 1)).a = za at *
  generalize (at3 l (n - 1)).b = zb at *
  generalize (at3 l (n - 1)).c = zc at *
  generalize (at3 l 0).a = xa at *
  generalize (at3 l 0).b = xb at *
  generalize (at3 l 0).c = xc at *
  generalize (at3 l 1).a = ya at *
  generalize (at3 l 1).b = yb at *
  generalize (at3 l 1).c = yc at *
  clear hn0
  go_wp2_with fail
  have hn1' : (1 : Int) < n := by omega
  have hn0' : (0 : Int) < n := by omega
  have hn0 : 0 < n := by omega
  have hn1 : 1 < n := by omega
  have hnz : ¬ n = 0 := by omega
  apply two_ways3
  case h =>
    intro KEY0
    have KEY := hid KEY0
    clear KEY0
    refine wp_region_t (.q 1 (.q 3 (.q 4 (.q 5 (.q 6 (.q 7 (.q 8 (.q 9 (.q 10 (.q 11 (.q 12 (.q 13 (.q 14 (.q 15 (.q 16 (.q 17 (.q 18 (.q 19 (.q 20 (.q 21 (.q 22 (.q 23 (.q 24 (.b 0 25 (.b 2 25 (.u 25 (.u 26 (.u 27 .nil))) (.u 2 (.u 26 (.u 27 .nil)))) (.u 0 (.u 2 (.u 26 (.u 27 .nil)))))))))))))))))))))))))))) (by kernel_rfl) (by kernel_rfl) (fun w4 e4 => ?_)
    have e4' : Ext w3 w4 := Ext.trans (by repeat (first | exact Ext.refl _ | refine Ext.alloc ?_ _ | assumption | refine Ext.over ?_ _ | refine Ext.drew ?_ | refine Ext.drewN ?_ _)) e4
    have HE4 := hid (HE3.out.trans e4')
    have HL4 := hid (HL3.out.ext e4')
    have HM4 := hid (HM3.out.ext e4')
    have l0 := old_cell e4 (show _ = some (.int .i64 za) by first | (show World.cell? _ ⟨w3.heap.size, 0, none⟩ = _; go_simp))
    have l1 := old_cell e4 (show _ = some (.int .i64 zb) by first | (show World.cell? _ ⟨w3.heap.size, 1, none⟩ = _; go_simp))
    have x0 := old_cell e4' x0
    have x2 := old_cell e4' x2
    have y2 := old_cell e4' y2
    clear e4 e4'
    have hw1 : IntKind.i64.wrap (za + 1) = za + 1 := IntWalk.i64_in _ (by omega)
    have hw2 : IntKind.i64.wrap (zb + 1) = zb + 1 := IntWalk.i64_in _ (by omega)
    have hw3 : IntKind.i64.wrap (za + 2) = za + 2 := IntWalk.i64_in _ (by omega)
    have hw4 : IntKind.i64.wrap (zb + 2) = zb + 2 := IntWalk.i64_in _ (by omega)
    simp only [pickT, List.getElem?_cons_succ, List.getElem?_cons_zero]
    repeat (refine wpW_q (fun K hK => ?_); go_simp; refine hK _ ?_; clear hK K)
    refine wpW_b ?_ ?_
    · refine stepH_of (fun K hK => ?_)
      go_simp
      refine hK _ _ (Below.alloc (Below.refl _ _) (Nat.le_refl _) _) ?_; clear hK K
      have HO4 := hid (own_empty w4 w4.heap.size w4.heap.size rfl (Nat.le_refl _) 31 3)
      refine wpW_b ?_ ?_
      · refine stepH_of (fun K hK => ?_)
        rw [if_pos (by rfl)]
        refine her_pushS w4 (.tmp 36) (.tmp 37) 24 rfl 31 Try.underlying24 info_FrameD rfl (by decide) _ 0 [] rfl HO4.out (by repeat (first | exact Ext.refl _ | refine Ext.alloc ?_ _ | assumption | refine Ext.over ?_ _ | refine Ext.drew ?_ | refine Ext.drewN ?_ _)) (some ⟨bk, off, none⟩) n c (l.flatMap T3.v) rfl (by intro h; cases h) (by rw [flat_len _ 3 T3.len, HLL.out]) (HL4.out.ext (by repeat (first | exact Ext.refl _ | refine Ext.alloc ?_ _ | assumption | refine Ext.over ?_ _ | refine Ext.drew ?_ | refine Ext.drewN ?_ _))) one3 (by omega) (by decide) ?_
        intro A5 c5 w5 ho5 he5 hg5
        refine hK _ _ (grown_below hg5 HO4.out (Nat.le_refl _) (by simp)) ?_; clear hK K
        rw [Nat.zero_add, List.nil_append] at ho5
        rw [Nat.zero_add]
        refine wpW_u ?_
        refine stepH_of (fun K hK => ?_)
        go_simp
        refine hK _ _ (Below.alloc (Below.refl _ _) (he5.size) _) ?_; clear hK K
        have HO6 := hid (own_ext ho5 (show Ext w5 (w5.alloc (.cells #[.int .i64 (za + 1), .int .i64 (zb + 1), .int .i64 xc, .int .i64 (za + 2), .int .i64 (zb + 2), .int .i64 yc] 31)) by repeat (first | exact Ext.refl _ | refine Ext.alloc ?_ _ | assumption | refine Ext.over ?_ _ | refine Ext.drew ?_ | refine Ext.drewN ?_ _)))
        have HE6 := hid (show Ext w4 (w5.alloc (.cells #[.int .i64 (za + 1), .int .i64 (zb + 1), .int .i64 xc, .int .i64 (za + 2), .int .i64 (zb + 2), .int .i64 yc] 31)) from he5.trans (by repeat (first | exact Ext.refl _ | refine Ext.alloc ?_ _ | assumption | refine Ext.over ?_ _ | refine Ext.drew ?_ | refine Ext.drewN ?_ _)))
        have HC6 := hid (lit_cells w5 w5.heap.size rfl [.int .i64 (za + 1), .int .i64 (zb + 1), .int .i64 xc, .int .i64 (za + 2), .int .i64 (zb + 2), .int .i64 yc] 31)
        clear ho5 he5 hg5
        refine wpW_u ?_
        refine stepH_of (fun K hK => ?_)
        rw [if_pos (by rfl)]
        refine her_push w4 (.tmp 38) (.tmp 61) 24 rfl 31 Try.underlying24 info_FrameD rfl (by decide) _ n (l.flatMap T3.v) rfl HO6.out HE6.out _ 2 2 [.int .i64 (za + 1), .int .i64 (zb + 1), .int .i64 xc, .int .i64 (za + 2), .int .i64 (zb + 2), .int .i64 yc] rfl rfl HC6.out (by intro u hu; simp at hu; rcases hu with rfl | rfl | rfl | rfl | rfl | rfl <;> rfl) (by omega) (by omega) (by decide) ?_
        intro g cap w7 ho7 he7 hg7
        refine hK _ _ (grown_below hg7 HO6.out (Nat.le_refl _) HE6.out.size) ?_; clear hK K
        ((first | refine wpW_u ?_ | skip); refine stepH_of (fun K hK => ?_); go_simp; refine hK _ _ (Below.refl _ _) ?_; clear hK K)
        refine wpW_nil ?_
        have F := hid (And.intro (HE4.out.trans he7) (And.intro (HL4.out.ext he7) (And.intro (HM4.out.ext he7) (And.intro (show Row w7 (some ⟨g, 0, none⟩) ((againL l).flatMap T3.v) by rw [HAG.out, List.flatMap_append]; exact Row.of_own ho7) (And.intro (old_cell he7 l0) (And.intro (old_cell he7 x0) (old_cell he7 l0)))))))
        generalize Value.slice (some ⟨w4.heap.size, 0, none⟩) 0 0 = v36
        generalize Value.slice A5 n c5 = v38
        generalize Value.slice (some ⟨w5.heap.size, 0, none⟩) 2 2 = v61
        clear HE4 HL4 HM4 l0 l1 x0 x2 y2 HO4 HO6 HE6 HC6 ho7 he7 hg7 hw1 hw2 hw3 hw4
        revert F
        revert cap g
        revert v36 v38 v61
        revert w7
        exact KEY.out
      · refine stepH_of (fun K hK => ?_)
        go_simp
        refine hK _ _ (Below.alloc (Below.refl _ _) (by simp) _) ?_; clear hK K
        have HO5 := hid (own_ext HO4.out (show Ext (w4.alloc (.cells #[] 31)) ((w4.alloc (.cells #[] 31)).alloc (.cells #[.int .i64 (za + 1), .int .i64 (zb + 1), .int .i64 xc, .int .i64 (za + 2), .int .i64 (zb + 2), .int .i64 yc] 31)) by repeat (first | exact Ext.refl _ | refine Ext.alloc ?_ _ | assumption | refine Ext.over ?_ _ | refine Ext.drew ?_ | refine Ext.drewN ?_ _)))
        have HC5 := hid (lit_cells (w4.alloc (.cells #[] 31)) (w4.heap.size + 1) (by simp) [.int .i64 (za + 1), .int .i64 (zb + 1), .int .i64 xc, .int .i64 (za + 2), .int .i64 (zb + 2), .int .i64 yc] 31)
        refine wpW_u ?_
        refine stepH_of (fun K hK => ?_)
        rw [if_pos (by rfl)]
        refine her_pushS w4 (.tmp 36) (.tmp 37) 24 rfl 31 Try.underlying24 info_FrameD rfl (by decide) _ 0 [] rfl HO5.out (by repeat (first | exact Ext.refl _ | refine Ext.alloc ?_ _ | assumption | refine Ext.over ?_ _ | refine Ext.drew ?_ | refine Ext.drewN ?_ _)) (some ⟨bk, off, none⟩) n c (l.flatMap T3.v) rfl (by intro h; cases h) (by rw [flat_len _ 3 T3.len, HLL.out]) (HL4.out.ext (by repeat (first | exact Ext.refl _ | refine Ext.alloc ?_ _ | assumption | refine Ext.over ?_ _ | refine Ext.drew ?_ | refine Ext.drewN ?_ _))) one3 (by omega) (by decide) ?_
        intro A5 c5 w5 ho5 he5 hg5
        refine hK _ _ (grown_below hg5 HO5.out (Nat.le_refl _) (by simp; omega)) ?_; clear hK K
        rw [Nat.zero_add, List.nil_append] at ho5
        rw [Nat.zero_add]
        have HC6 := hid (fun j u (hu : [.int .i64 (za + 1), .int .i64 (zb + 1), .int .i64 xc, .int .i64 (za + 2), .int .i64 (zb + 2), .int .i64 yc][j]? = some u) => (show w5.cell? ((⟨w4.heap.size + 1, 0, none⟩ : Addr).add j) = some u by rw [show (⟨w4.heap.size + 1, 0, none⟩ : Addr).add j = ⟨w4.heap.size + 1, 0 + j, none⟩ from by unfold Addr.add; split <;> simp_all]; refine (World.cell?_of_block (hg5.block (w4.heap.size + 1) (by first | (simp; done) | (simp; omega)) (fun e => by have := Option.some.inj e; simp at this))).trans ?_; have := HC5.out j u hu; rwa [show (⟨w4.heap.size + 1, 0, none⟩ : Addr).add j = ⟨w4.heap.size + 1, 0 + j, none⟩ from by unfold Addr.add; split <;> simp_all] at this))
        have HO6 := hid ho5
        have HE6 := hid he5
        clear ho5 he5 hg5 HC5 HO5
        refine wpW_u ?_
        refine stepH_of (fun K hK => ?_)
        rw [if_pos (by rfl)]
        refine her_push w4 (.tmp 38) (.tmp 61) 24 rfl 31 Try.underlying24 info_FrameD rfl (by decide) _ n (l.flatMap T3.v) rfl HO6.out HE6.out _ 2 2 [.int .i64 (za + 1), .int .i64 (zb + 1), .int .i64 xc, .int .i64 (za + 2), .int .i64 (zb + 2), .int .i64 yc] rfl rfl HC6.out (by intro u hu; simp at hu; rcases hu with rfl | rfl | rfl | rfl | rfl | rfl <;> rfl) (by omega) (by omega) (by decide) ?_
        intro g cap w7 ho7 he7 hg7
        refine hK _ _ (grown_below hg7 HO6.out (Nat.le_refl _) HE6.out.size) ?_; clear hK K
        ((first | refine wpW_u ?_ | skip); refine stepH_of (fun K hK => ?_); go_simp; refine hK _ _ (Below.refl _ _) ?_; clear hK K)
        refine wpW_nil ?_
        have F := hid (And.intro (HE4.out.trans he7) (And.intro (HL4.out.ext he7) (And.intro (HM4.out.ext he7) (And.intro (show Row w7 (some ⟨g, 0, none⟩) ((againL l).flatMap T3.v) by rw [HAG.out, List.flatMap_append]; exact Row.of_own ho7) (And.intro (old_cell he7 l0) (And.intro (old_cell he7 x0) (old_cell he7 l0)))))))
        generalize Value.slice (some ⟨w4.heap.size, 0, none⟩) 0 0 = v36
        generalize Value.slice A5 n c5 = v38
        generalize Value.slice (some ⟨w4.heap.size + 1, 0, none⟩) 2 2 = v61
        clear HE4 HL4 HM4 l0 l1 x0 x2 y2 HO4 HO6 HE6 HC6 ho7 he7 hg7 hw1 hw2 hw3 hw4
        revert F
        revert cap g
        revert v36 v38 v61
        revert w7
        exact KEY.out
    · refine stepH_of (fun K hK => ?_)
      go_simp
      refine hK _ _ (Below.alloc (Below.refl _ _) (Nat.le_refl _) _) ?_; clear hK K
      refine wpW_u ?_
      refine stepH_of (fun K hK => ?_)
      go_simp
      refine hK _ _ (Below.alloc (Below.refl _ _) (by simp) _) ?_; clear hK K
      have HO4 := hid (own_empty (w4.alloc (.cells #[.int .i64 (za + 1), .int .i64 (zb + 1), .int .i64 xc, .int .i64 (za + 2), .int .i64 (zb + 2), .int .i64 yc] 31)) (w4.heap.size + 1) w4.heap.size (by simp) (by simp) 31 3)
      have HC5 := hid (show ∀ (j : Nat) (u : Value), [.int .i64 (za + 1), .int .i64 (zb + 1), .int .i64 xc, .int .i64 (za + 2), .int .i64 (zb + 2), .int .i64 yc][j]? = some u → ((w4.alloc (.cells #[.int .i64 (za + 1), .int .i64 (zb + 1), .int .i64 xc, .int .i64 (za + 2), .int .i64 (zb + 2), .int .i64 yc] 31)).alloc (.cells #[] 31)).cell? ((⟨w4.heap.size, 0, none⟩ : Addr).add j) = some u from fun j u hu => old_cell (show Ext (w4.alloc (.cells #[.int .i64 (za + 1), .int .i64 (zb + 1), .int .i64 xc, .int .i64 (za + 2), .int .i64 (zb + 2), .int .i64 yc] 31)) ((w4.alloc (.cells #[.int .i64 (za + 1), .int .i64 (zb + 1), .int .i64 xc, .int .i64 (za + 2), .int .i64 (zb + 2), .int .i64 yc] 31)).alloc (.cells #[] 31)) by repeat (first | exact Ext.refl _ | refine Ext.alloc ?_ _ | assumption | refine Ext.over ?_ _ | refine Ext.drew ?_ | refine Ext.drewN ?_ _)) (lit_cells w4 w4.heap.size rfl [.int .i64 (za + 1), .int .i64 (zb + 1), .int .i64 xc, .int .i64 (za + 2), .int .i64 (zb + 2), .int .i64 yc] 31 j u hu))
      refine wpW_u ?_
      refine stepH_of (fun K hK => ?_)
      rw [if_pos (by rfl)]
      refine her_pushS w4 (.tmp 36) (.tmp 37) 24 rfl 31 Try.underlying24 info_FrameD rfl (by decide) _ 0 [] rfl HO4.out (by repeat (first | exact Ext.refl _ | refine Ext.alloc ?_ _ | assumption | refine Ext.over ?_ _ | refine Ext.drew ?_ | refine Ext.drewN ?_ _)) (some ⟨bk, off, none⟩) n c (l.flatMap T3.v) rfl (by intro h; cases h) (by rw [flat_len _ 3 T3.len, HLL.out]) (HL4.out.ext (by repeat (first | exact Ext.refl _ | refine Ext.alloc ?_ _ | assumption | refine Ext.over ?_ _ | refine Ext.drew ?_ | refine Ext.drewN ?_ _))) one3 (by omega) (by decide) ?_
      intro A5 c5 w5 ho5 he5 hg5
      refine hK _ _ (grown_below hg5 HO4.out (Nat.le_refl _) (by simp; omega)) ?_; clear hK K
      rw [Nat.zero_add, List.nil_append] at ho5
      rw [Nat.zero_add]
      have HC6 := hid (fun j u (hu : [.int .i64 (za + 1), .int .i64 (zb + 1), .int .i64 xc, .int .i64 (za + 2), .int .i64 (zb + 2), .int .i64 yc][j]? = some u) => (show w5.cell? ((⟨w4.heap.size, 0, none⟩ : Addr).add j) = some u by rw [show (⟨w4.heap.size, 0, none⟩ : Addr).add j = ⟨w4.heap.size, 0 + j, none⟩ from by unfold Addr.add; split <;> simp_all]; refine (World.cell?_of_block (hg5.block (w4.heap.size) (by first | (simp; done) | (simp; omega)) (fun e => by have := Option.some.inj e; simp at this))).trans ?_; have := HC5.out j u hu; rwa [show (⟨w4.heap.size, 0, none⟩ : Addr).add j = ⟨w4.heap.size, 0 + j, none⟩ from by unfold Addr.add; split <;> simp_all] at this))
      have HO6 := hid ho5
      have HE6 := hid he5
      clear ho5 he5 hg5 HC5
      refine wpW_u ?_
      refine stepH_of (fun K hK => ?_)
      rw [if_pos (by rfl)]
      refine her_push w4 (.tmp 38) (.tmp 61) 24 rfl 31 Try.underlying24 info_FrameD rfl (by decide) _ n (l.flatMap T3.v) rfl HO6.out HE6.out _ 2 2 [.int .i64 (za + 1), .int .i64 (zb + 1), .int .i64 xc, .int .i64 (za + 2), .int .i64 (zb + 2), .int .i64 yc] rfl rfl HC6.out (by intro u hu; simp at hu; rcases hu with rfl | rfl | rfl | rfl | rfl | rfl <;> rfl) (by omega) (by omega) (by decide) ?_
      intro g cap w7 ho7 he7 hg7
      refine hK _ _ (grown_below hg7 HO6.out (Nat.le_refl _) HE6.out.size) ?_; clear hK K
      ((first | refine wpW_u ?_ | skip); refine stepH_of (fun K hK => ?_); go_simp; refine hK _ _ (Below.refl _ _) ?_; clear hK K)
      refine wpW_nil ?_
      have F := hid (And.intro (HE4.out.trans he7) (And.intro (HL4.out.ext he7) (And.intro (HM4.out.ext he7) (And.intro (show Row w7 (some ⟨g, 0, none⟩) ((againL l).flatMap T3.v) by rw [HAG.out, List.flatMap_append]; exact Row.of_own ho7) (And.intro (old_cell he7 l0) (And.intro (old_cell he7 x0) (old_cell he7 l0)))))))
      generalize Value.slice (some ⟨w4.heap.size + 1, 0, none⟩) 0 0 = v36
      generalize Value.slice A5 n c5 = v38
      generalize Value.slice (some ⟨w4.heap.size, 0, none⟩) 2 2 = v61
      clear HE4 HL4 HM4 l0 l1 x0 x2 y2 HO4 HO6 HE6 HC6 ho7 he7 hg7 hw1 hw2 hw3 hw4
      revert F
      revert cap g
      revert v36 v38 v61
      revert w7
      exact KEY.out
  intro w7 v36 v38 v61 g cap F
  have HF7 := hid F.out
  obtain ⟨hE7, hL7, hM7, hR7, l0, x0, _⟩ := F.out
  have HE7 := hid hE7
  have HL7 := hid hL7
  have HM7 := hid hM7
  have HR7 := hid hR7
  have hlate := HF.out.lateG (by have := HLL.out; omega)
  have hno := HF.out.noLate
  rw [HLL.out] at hlate
  have HAL := hid (show (againL l).length = n + 2 by rw [againL_len, HLL.out])
  have hrp := HRP.out
  rw [HLL.out] at hrp
  clear F HF7 hE7 hL7 hM7 hR7 HE3 HL3 HM3 z0 z1 z2 x1 y0 y1
  go_wp2_with fail
  refine (iLateFrames_any (some ⟨bk, off, none⟩) n c l 1 0 w7 HL7.out HLL.out (by omega)).mono ?_
  rintro _ w8 ⟨G, m8, c8, rfl, ho8, he8⟩
  have hm8 := own_len ho8
  have HE8 := hid (HE7.out.trans he8)
  have HL8 := hid (HL7.out.ext he8)
  have HM8 := hid (HM7.out.ext he8)
  have HR8 := hid (HR7.out.ext he8)
  have l0 := old_cell he8 l0
  have x0 := old_cell he8 x0
  have hm9 : m8 < n := by omega
  obtain ⟨rk, hrk⟩ : ∃ rk, repl (againL l) = rk := ⟨_, rfl⟩
  rw [hrk] at hrp
  clear ho8 he8 HE7 HL7 HM7 HR7 hlate
  go_wp2_with fail
  refine (gives_v hrk (iReplayedAt_any (some ⟨g, 0, none⟩) (n + 2) cap (againL l) w8 HR8.out HAL.out (by omega))).mono ?_
  rintro _ w9 ⟨rfl, he9⟩
  have HE9 := hid (HE8.out.trans he9)
  have HL9 := hid (HL8.out.ext he9)
  have HM9 := hid (HM8.out.ext he9)
  have l0 := old_cell he9 l0
  have x0 := old_cell he9 x0
  generalize w3.heap.size = bl at l0 ⊢
  generalize hmi : miss l = mi at *
  clear he9 HE8 HL8 HM8 HR8 hmi hrk
  subst hq
  go_wp2_with fail
  go_loopw [9] (fun iv wr => ∃ (i : Nat), i ≤ mi.length ∧ iv = .int .i64 ↑i ∧ Ext w9 wr) (fun iv _ => mi.length - (intOf iv).toNat)
  case atStart => exact ⟨0, by omega, rfl, Ext.refl _⟩
  case round =>
    obtain ⟨i, hi, rfl, he⟩ := hrel
    have HE := hid he
    have l0 := old_cell he l0
    have x0 := old_cell he x0
    have HMR := hid (HM9.out.ext he)
    clear he
    by_cases hlt : i < mi.length
    · have hit : (i : Int) < mi.length := by omega
      obtain ⟨bm, om, hB, hc⟩ := HMR.out.ints hlt
      have m0 := hc i hlt
      have ha := HMA.out i hlt
      by_cases h0 : i = 0
      · subst h0
        have ha1 := ha.1
        have ha2 := ha.2.1
        rw [Nat.add_zero] at m0
        clear hc ha HMA
        subst hB
        generalize atI mi 0 = v at m0 ha1 ha2
        have hd1 : decide (v ≤ xa) = false := decide_eq_false (by omega)
        have hd2 : decide (za ≤ v) = false := decide_eq_false (by omega)
        go_wp2_with fail
        (refine wp_region_calm (by kernel_rfl) (by kernel_rfl) ?_; (repeat (go_big_quiet_step (fail))); refine wpQuiet_nil ?_; rintro w1 ⟨x1, rfl⟩)
        go_wp2_with fail
        go_roundw
        case rel => exact ⟨1, by omega, by go_num, HE.out.trans (by repeat (first | exact Ext.refl _ | refine Ext.alloc ?_ _ | assumption | refine Ext.over ?_ _ | refine Ext.drew ?_ | refine Ext.drewN ?_ _))⟩
        case measure => simp [intOf]; omega
      · obtain ⟨ip, hip⟩ : ∃ ip, ip = i - 1 := ⟨_, rfl⟩
        have hwi : IntKind.i64.wrap ((i : Int) - 1) = (ip : Int) := by rw [IntWalk.i64_in _ (by omega)]; omega
        have hip' : (ip : Int) < mi.length := by omega
        have hi0 : (0 : Int) < i := by omega
        have m1 := hc ip (by omega)
        have ha1 := ha.1
        have ha2 := ha.2.1
        have ha3 := ha.2.2 (by omega)
        rw [← hip] at ha3
        clear hc ha HMA hip
        subst hB
        generalize atI mi i = v at m0 ha1 ha2 ha3
        generalize atI mi ip = u at m1 ha3
        have hd1 : decide (v ≤ xa) = false := decide_eq_false (by omega)
        have hd2 : decide (za ≤ v) = false := decide_eq_false (by omega)
        have hd4 : decide ((0 : Int) < i) = true := decide_eq_true hi0
        have hiN : 0 < i := by omega
        have hd5 : decide (0 < i) = true := decide_eq_true hiN
        have hd3 : decide (v ≤ u) = false := decide_eq_false (by omega)
        go_wp2_with fail
        (refine wp_region_calm (by kernel_rfl) (by kernel_rfl) ?_; (repeat (go_big_quiet_step (fail))); refine wpQuiet_nil ?_; rintro w1 ⟨x1, rfl⟩)
        go_wp2_with fail
        go_roundw
        case rel => exact ⟨i + 1, by omega, by go_num, HE.out.trans (by repeat (first | exact Ext.refl _ | refine Ext.alloc ?_ _ | assumption | refine Ext.over ?_ _ | refine Ext.drew ?_ | refine Ext.drewN ?_ _))⟩
        case measure => simp [intOf]; omega
    · obtain rfl : i = mi.length := by omega
      have hlt' : ¬ (mi.length : Int) < mi.length := by omega
      have hv1 : IntKind.i64.wrap ((mi.length : Int) + n) = (mi.length : Int) + n := IntWalk.i64_in _ (by omega)
      have hv2 : IntKind.i64.wrap (za - xa) = za - xa := IntWalk.i64_in _ (by omega)
      have hv3 : IntKind.i64.wrap (za - xa + 1) = za - xa + 1 := IntWalk.i64_in _ (by omega)
      have hv4 : ((mi.length : Int) + n == za - xa + 1) = true := by rw [beq_iff_eq]; exact hcnt
      have hv5 : (0 : Int) ≤ rk := hrp.1
      have hv6 : rk < (n : Int) + 2 := hrp.2
      have hv7 : (m8 : Int) < n := by omega
      have HER := hid (HE9.out.trans HE.out)
      have HLR := hid (HL9.out.ext HE.out)
      clear HMA hcnt HM9 HL9 HE9
      go_wp2_with fail
      refine wp_region_x [.q 0, .q 1, .q 2, .q 3, .q 4, .q 5, .q 6, .q 7, .q 8, .q 9, .q 10, .q 11, .q 12, .q 13, .q 14, .q 15, .q 16, .q 17, .q 18, .q 19, .q 20, .q 21, .q 22, .q 23, .q 24, .q 25, .q 26, .q 27, .q 28, .q 29, .q 30, .q 31, .q 32, .u 33, .u 34, .u 35, .u 36, .u 37] (by kernel_rfl) (by kernel_rfl) (fun w10 e10 => ?_)
      have l0 := old_cell e10 l0
      have x0 := old_cell e10 x0
      have HE10 := hid (HER.out.trans e10)
      have HL10 := hid (HLR.out.ext e10)
      clear e10
      simp only [pick, List.getElem?_cons_succ, List.getElem?_cons_zero]
      repeat (refine wpZ_q (fun K hK => ?_); go_simp; refine hK _ ?_; clear hK K)
      refine wpZ_u ?_
      refine stepH_of (fun K hK => ?_)
      go_simp
      refine (iLateFrames_any (some ⟨bk, off, none⟩) n c l 1000 1000 w10 HL10.out HLL.out (by omega)).mono ?_
      rintro _ w11 ⟨G2, m11, c11, rfl, ho11, he11⟩
      have hm11 := own_len ho11
      rw [hno] at hm11
      obtain rfl : m11 = 0 := hm11.symm
      refine ⟨_, rfl, hK _ _ he11 ?_⟩; clear hK K
      have HE11 := hid (HE10.out.trans he11)
      clear ho11 he11
      ((first | refine wpZ_u ?_ | skip); refine stepH_of (fun K hK => ?_); go_simp; refine hK _ _ (Below.refl _ _) ?_; clear hK K)
      ((first | refine wpZ_u ?_ | skip); refine stepH_of (fun K hK => ?_); go_simp; refine hK _ _ (Below.refl _ _) ?_; clear hK K)
      ((first | refine wpZ_u ?_ | skip); refine stepH_of (fun K hK => ?_); go_simp; refine hK _ _ (Below.refl _ _) ?_; clear hK K)
      ((first | refine wpZ_u ?_ | skip); refine stepH_of (fun K hK => ?_); go_simp; refine hK _ _ (Below.refl _ _) ?_; clear hK K)
      refine wpZ_nil ?_
      go_wp2_with fail
      go_ret
      exact ⟨rfl, HE11.out⟩
end fnFrames
end Go.Proofs.Ytnjmhdlcmbpfpaa
