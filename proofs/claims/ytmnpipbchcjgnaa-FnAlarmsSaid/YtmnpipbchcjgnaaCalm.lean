/- Walks: LongestCalm. Conditions: sizes. -/
import Derived.Test.YtmnpipbchcjgnaaQuiet
import Derived.Test.YtmnpipbchcjgnaaCalmM
import Derived.Test.YtmnpipbchcjgnaaShelf
namespace Go.Proofs.Ytmnpipbchcjgnaa
open Go.RowKit
set_option linter.unusedVariables false

def mom (r : List T3) (i : Int) : Int := (at3 r i.toNat).c
def moms (z r : List T3) : List Int := (alarms z r).map (mom r)
theorem moms_len (z r : List T3) : (moms z r).length = (alarms z r).length := by simp [moms]
theorem moms_at {z r : List T3} {k : Nat} (h : k < (alarms z r).length) : atI (moms z r) k = mom r (atI (alarms z r) k) := by
  rw [atI_eq _ _ (by rw [moms_len]; exact h), atI_eq _ _ h]; simp [moms]
theorem moms_bd {z r : List T3} {x : Int} (h : x ∈ moms z r) : 0 ≤ x ∧ x ≤ 10000 := by
  obtain ⟨i, hi, rfl⟩ := List.mem_map.1 h
  obtain ⟨j, rfl, _, h1, h2⟩ := alarms_ix hi
  unfold mom
  rw [Int.toNat_natCast]
  exact ⟨h1, h2⟩
theorem moms_take {z r : List T3} {k : Nat} (h : k < (alarms z r).length) : (moms z r).take (k + 1) = (moms z r).take k ++ [mom r (atI (alarms z r) k)] := by
  rw [List.take_succ_eq_append_getElem (by rw [moms_len]; exact h), ← moms_at h, atI_eq]
def srt (z r : List T3) : List Int := (moms z r).mergeSort fun x y => decide (x ≤ y)
theorem srt_perm (z r : List T3) : (srt z r).Perm (moms z r) := List.mergeSort_perm _ _
theorem srt_len (z r : List T3) : (srt z r).length = (alarms z r).length := (srt_perm z r).length_eq.trans (moms_len z r)
theorem srt_sorted (z r : List T3) : (srt z r).Pairwise (· ≤ ·) := by
  have := List.pairwise_mergeSort (le := fun x y : Int => decide (x ≤ y)) (by intro a b c; simp; omega) (by intro a b; simp; omega) (moms z r)
  exact this.imp (by simp)
theorem srt_bd {z r : List T3} {k : Nat} (h : k < (srt z r).length) : 0 ≤ atI (srt z r) k ∧ atI (srt z r) k ≤ 10000 :=
  moms_bd ((srt_perm z r).subset (by rw [atI_eq _ _ h]; exact List.getElem_mem _))
def calm (z r : List T3) : Int := if 40 < r.length then 0 else calmTo (moms z r) (moms z r).length
theorem calm_srt {z r : List T3} (h : ¬ 40 < r.length) : calm z r = adjTo (srt z r) ((srt z r).length - 1) := by
  unfold calm; rw [if_neg h]
  exact (calm_eq (srt_perm z r) (srt_sorted z r) (fun x hx => (moms_bd hx).1)).symm
theorem adj_bd {s : List Int} (h : ∀ k, k < s.length → 0 ≤ atI s k ∧ atI s k ≤ 10000) : ∀ k, k + 1 ≤ s.length ∨ k = 0 → 0 ≤ adjTo s k ∧ adjTo s k ≤ 10000
  | 0, _ => by simp [adjTo]
  | k + 1, hk => by
    have h1 := adj_bd h k (.inl (by omega))
    have h2 := h k (by omega)
    have h3 := h (k + 1) (by omega)
    unfold adjTo gmx
    split <;> omega
set_option maxHeartbeats 1600000 in
theorem iCalm_any (A : Option Addr) (n c : Nat) (z : List T3) (B : Option Addr) (m d : Nat) (r : List T3) (w : World) (hz : Row w A (z.flatMap T3.v)) (hn : z.length = n) (hx : n ≤ 1048577) (hr : Row w B (r.flatMap T3.v)) (hm : r.length = m) (hy : m ≤ 1048577) :
    Gives Try.prog 19 #[.slice A n c, .slice B m d] w (.int .i64 (calm z r)) := by
  subst hn hm
  by_cases h40 : 40 < r.length
  · have HC := hid (show calm z r = 0 from if_pos h40)
    (unfold Gives; go_enter Try.func19, Try.ntmps19)
    go_wp2_with fail
    go_ret
    exact ⟨by rw [HC.out]; rfl, by repeat (first | exact Ext.refl _ | refine Ext.alloc ?_ _ | assumption | refine Ext.over ?_ _ | refine Ext.drew ?_ | refine Ext.drewN ?_ _)⟩
  have HC := hid (calm_srt (z := z) h40)
  have hal := alarms_len z r
  (unfold Gives; go_enter Try.func19, Try.ntmps19)
  go_wp2_with fail
  refine (iAlarms_any A _ c z B _ d r _ (hz.ext (by repeat (first | exact Ext.refl _ | refine Ext.alloc ?_ _ | assumption | refine Ext.over ?_ _ | refine Ext.drew ?_ | refine Ext.drewN ?_ _))) rfl hx (hr.ext (by repeat (first | exact Ext.refl _ | refine Ext.alloc ?_ _ | assumption | refine Ext.over ?_ _ | refine Ext.drew ?_ | refine Ext.drewN ?_ _))) rfl hy).mono ?_
  rintro _ w1 ⟨A1, m1, c1, rfl, o1, e1⟩
  have hm1 := own_len o1
  subst hm1
  have hsz : w.heap.size + 1 ≤ w1.heap.size := by have := e1.size; simpa using this
  have E1 : Ext w w1 := Ext.trans (by repeat (first | exact Ext.refl _ | refine Ext.alloc ?_ _ | assumption | refine Ext.over ?_ _ | refine Ext.drew ?_ | refine Ext.drewN ?_ _)) e1
  have HO1 := hid (own_ext (own_empty _ w.heap.size w.heap.size (by simp) (by simp) 3 1) e1)
  have HA := hid (own_base o1 (show w.heap.size + 1 ≤ _ by simp))
  clear o1 e1
  go_wp2_with fail
  go_loopw [5, 18] (fun o i wr => ∃ (k : Nat) (A' : Option Addr) (c' : Nat), k ≤ (alarms z r).length ∧ i = .int .i64 ↑k ∧ o = .slice A' k c' ∧ wr.ownsRow w.heap.size 3 1 (.slice A' k c') k (((moms z r).take k).map (Value.int .i64)) ∧ OutAt w1 wr w.heap.size A') (fun _ i _ => ((alarms z r).length - (intOf i).toNat))
  case atStart =>
    exact ⟨0, _, _, by omega, rfl, rfl, HO1.out, OutAt.refl _ _⟩
  case round =>
    obtain ⟨k, A', c', hk, rfl, rfl, hown, hout⟩ := hrel
    have hra := Row.of_own (hout.kept HA.out (by omega))
    have hext := hout.out E1 (by omega)
    have hsz' := hout.size
    have HO := hid hown
    have HT := hid hout
    have HX := hid hext
    clear hown hout hext
    by_cases hlt : k < (alarms z r).length
    · obtain ⟨ab, ao, rfl, hc⟩ := hra.ints hlt
      have a1 := hc k hlt
      obtain ⟨ix, hix, i1, i2, i3⟩ := (show AlIx z r (atI (alarms z r) k) from alarms_ix (by rw [atI_eq _ _ hlt]; exact List.getElem_mem hlt))
      have HMT := hid (show (moms z r).take (k + 1) = (moms z r).take k ++ [(at3 r ix).c] by rw [moms_take hlt, hix]; simp [mom])
      rw [hix] at a1
      have hr1 := hr.ext HX.out
      obtain ⟨rb, ro, rfl, hc3⟩ := hr1.t3 i1
      obtain ⟨r1, r2, r3⟩ := hc3 ix i1
      clear hc hra hix hc3
      go_wp2_with (at_builtin; refine wpList_pushO (w1) (w.heap.size) rfl (.tmp 22) (.tmp 28) 38 rfl 3 Try.underlying38 info_int rfl (by decide) (w.heap.size) _ k _ _ rfl (wr) HO.out HT.out (by repeat (first | exact Ext.refl _ | refine Ext.alloc ?_ _ | assumption | refine Ext.over ?_ _ | refine Ext.drew ?_ | refine Ext.drewN ?_ _)) ?_ _ 1 1 [.int .i64 ((at3 r ix).c)] rfl rfl (lit_cells _ _ (by first | (simp; done) | simp [ovr_size]) _ _) (by intro u hu; simp at hu; subst hu; rfl) (by decide) (by omega) (by decide) ?_)
      · omega
      intro A2 c2 w2 hown2 hout2
      have HO2 := hid hown2
      have HT2 := hid hout2
      clear hown2 hout2 HO HT
      go_wp2_with fail
      go_roundw
      case rel =>
        refine ⟨k + 1, A2, c2, by omega, by go_num, rfl, ?_, HT2.out⟩
        rw [HMT.out]
        simpa using HO2.out
      case measure => simp [intOf]; omega
    · obtain rfl : k = (alarms z r).length := by omega
      have ho : wr.ownsRow w.heap.size 3 1 (.slice A' (alarms z r).length c') (alarms z r).length ((moms z r).map (Value.int .i64)) := by
        have := HO.out
        rwa [List.take_of_length_le (by rw [moms_len]; omega)] at this
      have HO' := hid ho
      clear HO hra
      go_wp2_with fail
      refine (Sort_any w.heap.size A' _ c' (moms z r) wr HO'.out (by omega)).mono ?_
      rintro _ w3 ⟨rfl, o3, g3⟩
      have E3 := hid (grown_ext HX.out ho (Nat.le_refl _) g3)
      have HS := hid (show w3.ownsRow w.heap.size 3 1 (.slice A' (alarms z r).length c') (alarms z r).length ((srt z r).map (Value.int .i64)) from o3)
      have hsl := srt_len z r
      have HB := hid (fun k hk => srt_bd (z := z) (r := r) (k := k) hk)
      clear o3 g3 ho HO' HT HX
      go_wp2_with fail
      obtain ⟨wo, rfl⟩ : ∃ wo : World, wo = w3 := ⟨_, rfl⟩
      go_loopw [8, 9] (fun q i wi => ∃ (k : Nat), (k + 1 ≤ (srt z r).length ∨ k = 0) ∧ i = .int .i64 (↑k + 1) ∧ q = .int .i64 (adjTo (srt z r) k) ∧ Ext wo wi) (fun _ i _ => ((alarms z r).length - (intOf i).toNat))
      case atStart => exact ⟨0, .inr rfl, rfl, rfl, Ext.refl _⟩
      case round =>
        obtain ⟨k, hk, rfl, rfl, he⟩ := hrel
        have hq := adj_bd HB.out k hk
        have HE := hid he
        obtain ⟨x, rfl⟩ := he.ex
        clear he
        by_cases hlt : k + 1 < (alarms z r).length
        · have hrs := Row.of_own HS.out
          obtain ⟨sb, so, rfl, hc⟩ := hrs.ints (i := k + 1) (by omega)
          have c1 := hc k (by omega)
          have c2 := hc (k + 1) (by omega)
          have q1 := HB.out k (by omega)
          have q2 := HB.out (k + 1) (by omega)
          have HAD := hid (show adjTo (srt z r) (k + 1) = max (adjTo (srt z r) k) (atI (srt z r) (k + 1) - atI (srt z r) k) by show gmx _ _ = _; unfold gmx; split <;> omega)
          clear hc hrs
          go_wp2_with fail
          (refine wp_region_calm (by kernel_rfl) (by kernel_rfl) ?_; (repeat (go_big_quiet_step (fail))); refine wpQuiet_nil ?_; rintro w1 ⟨x1, rfl⟩)
          go_wp2_with fail
          go_roundw
          case rel =>
            refine ⟨k + 1, .inl (by omega), by go_num, by rw [HAD.out], ?_⟩
            repeat (first | exact Ext.refl _ | refine Ext.alloc ?_ _ | assumption | refine Ext.over ?_ _ | refine Ext.drew ?_ | refine Ext.drewN ?_ _)
          case measure => simp [intOf]; omega
        · go_wp2_with fail
          go_ret
          obtain rfl : k = (srt z r).length - 1 := by omega
          exact ⟨by rw [HC.out]; rfl, E3.out.trans HE.out⟩
end Go.Proofs.Ytmnpipbchcjgnaa
