/- Walks: QuietAlarms of the reference. Conditions: sizes. -/
import Derived.Test.YtbhbpibghjiknaaQuiet
namespace Go.Proofs.Ytbhbpibghjiknaa
open Go.RowKit
set_option linter.unusedVariables false

def fr (r : List T3) (p a : Int) (out : List Int) (i : Nat) : Bool := !((out.take i).any (tired r p a))
theorem fr_zero (r : List T3) (p a : Int) (out : List Int) : fr r p a out 0 = true := by simp [fr]
theorem fr_succ {r : List T3} {p a : Int} {out : List Int} {i : Nat} (h : i < out.length) : fr r p a out (i + 1) = (fr r p a out i && !(tired r p a (atI out i))) := by
  unfold fr
  rw [List.take_succ_eq_append_getElem h, List.any_append, atI_eq _ _ h]
  simp
theorem fr_all {r : List T3} {p a : Int} {out : List Int} {n : Nat} (h : out.length = n) : fr r p a out n = !(out.any (tired r p a)) := by
  unfold fr; rw [List.take_of_length_le (by omega)]
theorem tired_far {r : List T3} {p : Int} {i k : Nat} (h : ((at3 r k).a == (at3 r i).a) = false) : tired r p i k = false := by
  unfold tired; rw [Int.toNat_natCast, Int.toNat_natCast, h]; rfl
theorem tired_near {r : List T3} {p : Int} {i k : Nat} (h : ((at3 r k).a == (at3 r i).a) = true) : tired r p i k = btw ((at3 r i).c - (at3 r k).c) (-p) p := by
  unfold tired; rw [Int.toNat_natCast, Int.toNat_natCast, h]; rfl
set_option maxHeartbeats 1600000 in
theorem sQuiet_any (A : Option Addr) (n c : Nat) (z : List T3) (B : Option Addr) (m d : Nat) (r : List T3) (p : Int) (w : World) (hz : Row w A (z.flatMap T3.v)) (hn : z.length = n) (hx : n ≤ 1048577) (hr : Row w B (r.flatMap T3.v)) (hm : r.length = m) (hy : m ≤ 1048577) (hp' : i64r p) :
    Calls Try.prog 55 #[.slice A n c, .slice B m d, .int .i64 p] w fun en w' => ∃ A' m' c', en = .returned (.slice A' m' c') ∧ w'.ownsRow w.heap.size 3 1 (.slice A' m' c') m' ((quiets z r p).map (Value.int .i64)) ∧ Ext w w' := by
  subst hn hm
  have hal := alarms_len z r
  obtain ⟨p1, p2⟩ := hp'
  go_enter Try.func55, Try.ntmps55
  go_wp2_with fail
  refine (sAlarms_any A _ c z B _ d r _ (hz.ext (by repeat (first | exact Ext.refl _ | refine Ext.alloc ?_ _ | assumption | refine Ext.over ?_ _ | refine Ext.drew ?_ | refine Ext.drewN ?_ _))) rfl hx (hr.ext (by repeat (first | exact Ext.refl _ | refine Ext.alloc ?_ _ | assumption | refine Ext.over ?_ _ | refine Ext.drew ?_ | refine Ext.drewN ?_ _))) rfl hy).mono ?_
  rintro _ w1 ⟨A1, m1, c1, rfl, o1, e1⟩
  have hm1 := own_len o1
  subst hm1
  have hsz : w.heap.size + 1 ≤ w1.heap.size := by have := e1.size; simpa using this
  have E1 : Ext w w1 := Ext.trans (by repeat (first | exact Ext.refl _ | refine Ext.alloc ?_ _ | assumption | refine Ext.over ?_ _ | refine Ext.drew ?_ | refine Ext.drewN ?_ _)) e1
  have HO1 := hid (own_ext (own_empty _ w.heap.size w.heap.size (by simp) (by simp) 3 1) e1)
  have HA := hid (own_base o1 (show w.heap.size + 1 ≤ _ by simp))
  clear o1 e1
  by_cases hp : p < 0
  · have HQ := hid (show quiets z r p = [] from if_pos hp)
    go_wp2_with fail
    go_loopw [7, 9] (fun o i wr => i = .int .i64 0 ∧ o = .slice (some ⟨w.heap.size, 0, none⟩) 0 0 ∧ wr = w1) (fun _ _ _ => 0)
    case atStart => exact ⟨rfl, rfl, rfl⟩
    case round =>
      obtain ⟨rfl, rfl, rfl⟩ := hrel
      rcases Nat.eq_zero_or_pos (alarms z r).length with h0 | h0
      all_goals
        go_wp2_with fail
        go_ret
        rw [HQ.out]
        exact ⟨_, _, _, rfl, HO1.out, E1⟩
  · have HQ := hid (show quiets z r p = quietTo z r p (alarms z r).length from if_neg hp)
    go_wp2_with fail
    go_loopw [7, 9] (fun o i wr => ∃ (k : Nat) (A' : Option Addr) (m' c' : Nat), k ≤ (alarms z r).length ∧ m' ≤ k ∧ i = .int .i64 ↑k ∧ o = .slice A' m' c' ∧ wr.ownsRow w.heap.size 3 1 (.slice A' m' c') m' ((quietTo z r p k).map (Value.int .i64)) ∧ OutAt w1 wr w.heap.size A') (fun _ i _ => ((alarms z r).length - (intOf i).toNat))
    case atStart =>
      exact ⟨0, _, _, _, by omega, by omega, rfl, rfl, HO1.out, OutAt.refl _ _⟩
    case round =>
      obtain ⟨k, A', m', c', hk, hm, rfl, rfl, hown, hout⟩ := hrel
      have hra := Row.of_own (hout.kept HA.out (by omega))
      have hext := hout.out E1 (by omega)
      have hsz' := hout.size
      have HO := hid hown
      have HT := hid hout
      have HX := hid hext
      clear hown hout hext
      by_cases hlt : k < (alarms z r).length
      · obtain ⟨ab, ao, rfl, hc⟩ := hra.ints hlt
        have a1 := hc k hlt
        obtain ⟨ix, hix, i1, i2, i3⟩ := (show AlIx z r (atI (alarms z r) k) from alarms_ix (by rw [atI_eq _ _ hlt]; exact List.getElem_mem hlt))
        have HIX := hid hix
        rw [hix] at a1
        have HL := hid (show ∀ x ∈ quietTo z r p k, AlIx z r x from fun x hx => alarms_ix (quietTo_mem (by omega) x hx))
        have HQS := hid (quietTo_succ (p := p) hlt)
        have hr1 := hr.ext HX.out
        obtain ⟨rb, ro, rfl, hc3⟩ := hr1.t3 i1
        obtain ⟨r1, r2, r3⟩ := hc3 ix i1
        clear hc hra hix hc3
        have hml := own_len HO.out
        obtain ⟨wo, rfl⟩ : ∃ wo : World, wo = wr := ⟨_, rfl⟩
        go_wp2_with fail
        go_loopw [11, 12] (fun f i wi => ∃ (j : Nat), j ≤ m' ∧ i = .int .i64 ↑j ∧ f = .bool (fr r p ix (quietTo z r p k) j) ∧ wi.cell? ⟨wo.heap.size, 0, none⟩ = some (.int .i64 (at3 r ix).a) ∧ wi.cell? ⟨wo.heap.size, 1, none⟩ = some (.int .i64 (at3 r ix).b) ∧ wi.cell? ⟨wo.heap.size, 2, none⟩ = some (.int .i64 (at3 r ix).c) ∧ Ext wo wi) (fun _ i _ => m' - (intOf i).toNat)
        case atStart =>
          refine ⟨0, by omega, rfl, by rw [fr_zero], by go_simp, by go_simp, by go_simp, ?_⟩
          repeat (first | exact Ext.refl _ | refine Ext.alloc ?_ _ | assumption | refine Ext.over ?_ _ | refine Ext.drew ?_ | refine Ext.drewN ?_ _)
        case round =>
          obtain ⟨j, hj, rfl, rfl, q1, q2, q3, he⟩ := hrel
          have HE := hid he
          have hri := Row.of_own (own_ext HO.out he)
          have hr2 := hr1.ext he
          clear he
          by_cases hjlt : j < m'
          · obtain ⟨ob, oo, rfl, hc4⟩ := hri.ints (i := j) (by omega)
            have d1 := hc4 j (by omega)
            obtain ⟨jx, hjx, j1, j2, j3⟩ := HL.out (atI (quietTo z r p k) j) (by rw [atI_eq _ _ (show j < _ by omega)]; exact List.getElem_mem _)
            have HJX := hid hjx
            rw [hjx] at d1
            obtain ⟨rb2, ro2, hrb, hc5⟩ := hr2.t3 j1
            cases hrb
            obtain ⟨s1, s2, s3⟩ := hc5 jx j1
            have HFS := hid (fr_succ (r := r) (p := p) (a := ix) (out := quietTo z r p k) (i := j) (by omega))
            clear hc4 hc5 hri hjx hr2
            cases hfr : fr r p ix (quietTo z r p k) j
            · have HF := hid (show fr r p ix (quietTo z r p k) (j + 1) = false by rw [HFS.out, hfr]; rfl)
              go_wp2_with fail
              go_roundw
              case rel =>
                refine ⟨j + 1, by omega, by go_num, by rw [HF.out], by go_simp, by go_simp, by go_simp, ?_⟩
                exact Ext.alloc HE.out _
              case measure => simp [intOf]; omega
            · cases hze : ((at3 r jx).a == (at3 r ix).a)
              · have HF := hid (show fr r p ix (quietTo z r p k) (j + 1) = true by rw [HFS.out, hfr, HJX.out, tired_far hze]; rfl)
                have hne : ((at3 r jx).a != (at3 r ix).a) = true := by rw [bne, hze]; rfl
                go_wp2_with fail
                go_roundw
                case rel =>
                  refine ⟨j + 1, by omega, by go_num, by rw [HF.out], by go_simp, by go_simp, by go_simp, ?_⟩
                  exact Ext.alloc HE.out _
                case measure => simp [intOf]; omega
              · have hne : ((at3 r jx).a != (at3 r ix).a) = false := by rw [bne, hze]; rfl
                have HF := hid (show fr r p ix (quietTo z r p k) (j + 1) = decide (p < if (at3 r jx).c - (at3 r ix).c < (at3 r ix).c - (at3 r jx).c then (at3 r ix).c - (at3 r jx).c else (at3 r jx).c - (at3 r ix).c) by
                  rw [HFS.out, hfr, HJX.out, tired_near hze]; unfold btw; split <;> (rw [Bool.eq_iff_iff]; simp; omega))
                go_wp2_with fail
                go_roundw
                case rel =>
                  refine ⟨j + 1, by omega, by go_num, by rw [HF.out], by go_simp, by go_simp, by go_simp, ?_⟩
                  exact Ext.alloc HE.out _
                case measure => simp [intOf]; omega
          · obtain rfl : j = m' := by omega
            have a2 := (Below.cell HE.out (World.block_lt_of_cell? _ _ a1)).trans a1
            rw [fr_all hml]
            cases hq : (quietTo z r p k).any (tired r p ix)
            · have HN := hid (qStep_yes (r := r) (p := p) (i := ix) (out := quietTo z r p k) hq)
              go_wp2_with (at_builtin; refine wpList_pushO (w1) (w.heap.size) rfl (.tmp 72) (.tmp 77) 61 rfl 3 Try.underlying61 info_int rfl (by decide) (w.heap.size) _ j _ _ rfl (wo) HO.out HT.out (by repeat (first | exact Ext.refl _ | refine Ext.alloc ?_ _ | assumption | refine Ext.over ?_ _ | refine Ext.drew ?_ | refine Ext.drewN ?_ _)) ?_ _ 1 1 [.int .i64 ((ix : Nat))] rfl rfl (lit_cells _ _ (by first | (simp; done) | simp [ovr_size]) _ _) (by intro u hu; simp at hu; subst hu; rfl) (by decide) (by omega) (by decide) ?_)
              · omega
              intro A2 c2 w2 hown2 hout2
              have HO2 := hid hown2
              have HT2 := hid hout2
              clear hown2 hout2 HO HT
              go_wp2_with fail
              go_roundw
              case rel =>
                refine ⟨k + 1, A2, j + 1, c2, by omega, by omega, by go_num, rfl, ?_, HT2.out⟩
                rw [HQS.out, HIX.out, HN.out]
                simpa using HO2.out
              case measure => simp [intOf]; omega
            · have HN := hid (qStep_no (r := r) (p := p) (i := ix) (out := quietTo z r p k) hq)
              go_wp2_with fail
              go_roundw
              case rel =>
                refine ⟨k + 1, A', j, c', by omega, by omega, by go_num, rfl, ?_, HT.out.ext HE.out⟩
                rw [HQS.out, HIX.out, HN.out]
                exact own_ext HO.out HE.out
              case measure => simp [intOf]; omega
      · go_wp2_with fail
        go_ret
        obtain rfl : k = (alarms z r).length := by omega
        rw [HQ.out]
        exact ⟨_, _, _, rfl, HO.out, HX.out⟩
end Go.Proofs.Ytbhbpibghjiknaa
