/- Plain law: as few tracks as sightings that cannot be the same. No condition. -/
import Derived.Test.YtnjmhdlcmbpfpaaDrawSi
import Derived.Test.YtnjmhdlcmbpfpaaFewest
import Derived.Test.YtnjmhdlcmbpfpaaTrans
namespace Go.Proofs.Ytnjmhdlcmbpfpaa
open Go.RowKit
set_option linter.unusedVariables false

theorem Sgs.sights {l : List T3} (h : Sgs l) {s : Int} (hs : 1 ≤ s ∧ s ≤ 20) : sights l s = true := by
  unfold Go.Proofs.Ytnjmhdlcmbpfpaa.sights
  rw [allN_true fun k hk => by show sokAt l k = true; unfold sokAt; rw [at3_eq _ _ hk]; exact h.2 _ (List.getElem_mem hk), decide_eq_true h.1, btw_iff.2 hs]
  rfl
theorem tr_dil (l : List T3) (s : Int) : (∃ p : Nat → Bool, (∀ u v, u < l.length → v < l.length → p u = true → p v = true → cb l s u v = false) ∧ Match.tracks (cb l s) l.length ≤ ((List.range l.length).filter p).length) ∧
    ∀ p : Nat → Bool, (∀ u v, u < l.length → v < l.length → p u = true → p v = true → cb l s u v = false) → (((List.range l.length).filter p).length : Int) ≤ Match.tracks (cb l s) l.length :=
  Match.tracks_dil (c := cb l s) (n := l.length) (fun u v x _ _ _ a b => cb_trans a b)
def trk (l : List T3) (s : Int) : Int := Match.tracks (cb l s) l.length
theorem trk_le (l : List T3) (s : Int) : 0 ≤ trk l s ∧ trk l s ≤ l.length := by
  obtain ⟨⟨p, h1, h2⟩, h3⟩ := tr_dil l s
  have h4 := List.length_filter_le p (List.range l.length)
  rw [List.length_range] at h4
  have h5 := h3 (fun _ => false) (fun u v _ _ hu => by cases hu)
  unfold trk
  omega
theorem trk_pos {l : List T3} {s : Int} (h : 0 < l.length) : 1 ≤ trk l s := by
  obtain ⟨_, h3⟩ := tr_dil l s
  have := h3 (fun k => k == 0) (fun u v _ _ hu hv => by
    have hu' : u = 0 := by simpa using hu
    have hv' : v = 0 := by simpa using hv
    rw [hu', hv']
    unfold cb canBe
    simp)
  have hm : 0 ∈ (List.range l.length).filter (fun k => k == 0) := List.mem_filter.2 ⟨List.mem_range.2 h, rfl⟩
  have := List.length_pos_of_mem hm
  unfold trk
  omega
theorem cb_mono {l : List T3} {s : Int} {i k : Nat} (hs : 1 ≤ s ∧ s ≤ 19) (h : cb l s i k = true) : cb l (s + 1) i k = true := by
  unfold cb canBe at *
  simp only [Bool.and_eq_true, decide_eq_true_eq] at *
  obtain ⟨⟨⟨⟨p1, p2⟩, p3⟩, p4⟩, p5⟩ := h
  refine ⟨⟨⟨⟨p1, p2⟩, btw_iff.2 (by omega)⟩, p4⟩, Int.le_trans p5 ?_⟩
  have h1 : s * ((at3 l k).a - (at3 l i).a) ≤ (s + 1) * ((at3 l k).a - (at3 l i).a) := Int.mul_le_mul_of_nonneg_right (by omega) (by omega)
  have h0 : 0 ≤ s * ((at3 l k).a - (at3 l i).a) := Int.mul_nonneg (by omega) (by omega)
  exact Int.mul_le_mul h1 h1 h0 (by omega)
theorem trk_mono {l : List T3} {s : Int} (hs : 1 ≤ s ∧ s ≤ 19) : trk l (s + 1) ≤ trk l s := by
  obtain ⟨⟨p, h1, h2⟩, _⟩ := tr_dil l (s + 1)
  obtain ⟨_, h3⟩ := tr_dil l s
  have := h3 p (fun u v hu hv pu pv => by
    cases hc : cb l s u v
    · rfl
    · have h4 := h1 u v hu hv pu pv
      rw [cb_mono hs hc] at h4; cases h4)
  unfold trk
  omega
theorem track_all {l : List T3} {s : Int} (h : track l s = true) : ∀ i k, i < k → k < l.length → cb l s i k = true := by
  unfold track at h
  simp only [Bool.and_eq_true] at h
  have h1 := allN_iff.1 h.1
  intro i k hik
  induction k with
  | zero => omega
  | succ k ih =>
    intro hk
    have h2 := h1 (k + 1) hk
    simp only [Bool.and_eq_true, Bool.or_eq_true, decide_eq_true_eq] at h2
    have h3 : cb l s k (k + 1) = true := by
      rcases h2.2 with h | h
      · omega
      · exact h
    rcases Nat.lt_or_ge i k with h' | h'
    · exact cb_trans (ih h' (by omega)) h3
    · rw [show i = k by omega]; exact h3
theorem filter_one {n : Nat} {p : Nat → Bool} (h : ∀ u v, u < v → v < n → ¬ (p u = true ∧ p v = true)) : ((List.range n).filter p).length ≤ 1 := by
  have hp := (List.pairwise_lt_range (n := n)).filter p
  match hf : (List.range n).filter p with
  | [] => simp
  | [_] => simp
  | a :: b :: r =>
    rw [hf] at hp
    have hab : a < b := (List.pairwise_cons.1 hp).1 b (by simp)
    have ha := List.mem_filter.1 (show a ∈ (List.range n).filter p by rw [hf]; simp)
    have hb := List.mem_filter.1 (show b ∈ (List.range n).filter p by rw [hf]; simp)
    exact absurd ⟨ha.2, hb.2⟩ (h a b hab (List.mem_range.1 hb.1))
theorem trk_track {l : List T3} {s : Int} (h : track l s = true) : trk l s = min 1 (l.length : Int) := by
  have h0 := trk_le l s
  have h1 : trk l s ≤ 1 := by
    obtain ⟨⟨p, h1, h2⟩, _⟩ := tr_dil l s
    have := filter_one (n := l.length) (p := p) (fun u v huv hv hp => by
      have := h1 u v (by omega) hv hp.1 hp.2
      rw [track_all h u v huv hv] at this; cases this)
    unfold trk; omega
  rcases Nat.eq_zero_or_pos l.length with h2 | h2
  · omega
  · have := trk_pos (s := s) h2; omega
theorem Sgs.few {l : List T3} (h : Sgs l) {s : Int} (hs : 1 ≤ s ∧ s ≤ 20) : fewest l s = trk l s := by unfold fewest trk; rw [h.sights hs]; rfl
theorem Sgs.mst {l : List T3} (h : Sgs l) {s : Int} (hs : 1 ≤ s ∧ s ≤ 20) : most l s = trk l s := by rw [most_fewest, h.sights hs]; rfl
end Go.Proofs.Ytnjmhdlcmbpfpaa
