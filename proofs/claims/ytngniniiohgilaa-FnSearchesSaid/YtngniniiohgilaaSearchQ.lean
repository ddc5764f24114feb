/- Plain law: what the law of the searches asks. -/
import Derived.Test.YtngniniiohgilaaSearchP
import Derived.Test.YtngniniiohgilaaBestS
import Derived.Test.YtngniniiohgilaaOrderI
namespace Go.Proofs.Ytngniniiohgilaa
open Go.RowKit
set_option linter.unusedVariables false

theorem order_ci {h : Nat} {l : List T2} {o : List Nat} (g : houseOk h l = true) (hb : Beg h o) (hl : o.length = h) : orderOk h l (ci o) = true := by
  rw [orderOk_all (fun k hk => ?_), g, ci_len, hl]
  · simp
  · rw [ci_len] at hk
    refine ord_ok ?_ ?_
    · rw [ci_at hk, btw_iff]
      have := hb.2 _ (List.getElem_mem hk)
      omega
    · rw [ci_at hk]
      rcases hm : memI ((ci o).take k) (o[k] : Nat) with _ | _
      · rfl
      · exfalso
        rw [memI_iff] at hm
        unfold ci at hm
        rw [← List.map_take, List.mem_map] at hm
        obtain ⟨x, hx, e⟩ := hm
        have hx' : x = o[k] := by exact_mod_cast e
        obtain ⟨j, hj, hjx⟩ := List.getElem_of_mem hx
        rw [List.length_take] at hj
        rw [List.getElem_take] at hjx
        exact List.pairwise_iff_getElem.1 hb.1 j k (by omega) hk (by omega) (hjx.trans hx')
theorem halls_half {h q : Nat} {l : List T2} {o : List Nat} (g : houseOk h l = true) (hb : Beg h o) : halls h l ((ci o).take q) = true := by
  refine halls_iff.2 ⟨g, fun k hk => ?_⟩
  rw [List.length_take, ci_len] at hk
  have hk1 : k < o.length := by omega
  have e : atI ((ci o).take q) k = (o[k] : Nat) := by
    rw [atI_eq _ _ (by rw [List.length_take, ci_len]; exact hk), List.getElem_take]; simp [ci]
  have := hb.2 _ (List.getElem_mem hk1)
  rw [e]; omega
theorem guards_in {h : Int} {l : List T2} {s : List Int} {k : Nat} (hk : k < (guardsOf h l s).length) : memI s (atI (guardsOf h l s) k) = true := by
  have hm : atI (guardsOf h l s) k ∈ guardsOf h l s := by rw [atI_eq _ _ hk]; exact List.getElem_mem hk
  have key : ∀ x ∈ guardsOf h l s, memI s x = true := by
    intro x hx
    unfold guardsOf at hx
    split at hx
    · unfold gaL at hx
      rw [idxs_mem] at hx
      obtain ⟨j, hj, h2, h3⟩ := hx
      unfold gaP memN at h3
      rw [Bool.and_eq_true] at h3
      first | exact hj ▸ h3.1 | exact h2 ▸ h3.1
    · cases hx
  exact key _ hm
/-- All that the law asks of the numbers. -/
theorem search_sums {h q : Nat} {l : List T2} {o : List Nat} (g : houseOk h l = true) (hb : Beg h o) (hl : o.length = h) (hq : q < h) :
    ∃ N F : Int, fewest h l = N ∧ forOf h l (ci o) = F ∧ orderOk h l (bestOrder h l) = true ∧ forOf h l (bestOrder h l) = N ∧ N ≤ F ∧ N ≤ h ∧ F ≤ 8 ∧ ((guardsOf h l ((ci o).take q)).length : Int) + 1 ≤ F ∧ (∃ v, v < h ∧ (deg l h v : Int) + 1 ≤ N) ∧ (N == 1) = ((h : Int) == 1) := by
  obtain ⟨hd, h1, h7, _⟩ := houseOk_bounds g
  obtain ⟨b1, b2, b3⟩ := bst_ord l h h [] ⟨List.nodup_nil, by simp⟩ (by simp)
  have eB : bestOrder h l = ci (bst l h h []).1 := by rw [bestOrder_yes g, Int.toNat_natCast]
  have eN : fewest h l = (bst l h h []).2 := by rw [fewest_yes g, Int.toNat_natCast]
  have eF : forOf h l (ci o) = forTo l h (ci o) h := by rw [forOf_yes (order_ci g hb hl), Int.toNat_natCast, ci_len, hl]
  have eFB : forOf h l (bestOrder h l) = (bst l h h []).2 := by rw [eB, forOf_yes (order_ci g b1 b2), Int.toNat_natCast, ci_len, b2, b3]
  have s1 := bst_le l h h [] o hb hl (by simp)
  rw [List.nil_append] at s1
  have s2 : (bst l h h []).2 ≤ h := by
    rw [b3]
    refine forTo_le (by omega) (fun i hi => ?_)
    have := fTo_le (l := l) (h := h) (b := (bst l h h []).1) i (by omega)
    omega
  have s3 := (forTo_bound l h (ci o) h).2
  have s4 := forTo_ge l h (ci o) hq
  have s5 : ((guardsOf h l ((ci o).take q)).length : Int) + 1 ≤ forTo l h (ci o) h := by
    rw [guardsOf_yes (halls_half g hb), Int.toNat_natCast]
    exact s4
  obtain ⟨v, hv, hdv⟩ := need_deg hd b1 b2 (by omega)
  rw [← b3] at hdv
  refine ⟨_, _, eN, eF, by rw [eB]; exact order_ci g b1 b2, eFB, s1, s2, by omega, s5, ⟨v, hv, hdv⟩, ?_⟩
  rw [Bool.eq_iff_iff, beq_iff_eq, beq_iff_eq]
  constructor
  · intro e
    rcases Nat.lt_or_ge 1 h with h2 | h2
    · have := deg_pos g hv h2; omega
    · omega
  · intro e; omega
end Go.Proofs.Ytngniniiohgilaa
