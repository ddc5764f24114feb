/- Walks: MissingFrames. Conditions: sizes. -/
import Derived.Test.YtnjmhdlcmbpfpaaLate
import Derived.Test.YtnjmhdlcmbpfpaaMinMax
namespace Go.Proofs.Ytnjmhdlcmbpfpaa
open Go.RowKit

def nums (l : List T3) : List Int := l.map (·.a)
theorem nums_len (l : List T3) : (nums l).length = l.length := by simp [nums]
theorem atI_nums {l : List T3} {k : Nat} (h : k < l.length) : atI (nums l) k = (at3 l k).a := by
  rw [atI_eq _ _ (by rw [nums_len]; exact h), at3_eq l k h]; simp [nums]
theorem nums_take_snoc {l : List T3} {k : Nat} (h : k < l.length) : (nums l).take (k + 1) = (nums l).take k ++ [(at3 l k).a] := by
  rw [List.take_succ_eq_append_getElem (by rw [nums_len]; exact h), at3_eq l k h]; simp [nums]
def loF (l : List T3) : Int := minTo (nums l) l.length
def hiF (l : List T3) : Int := maxTo (nums l) l.length
theorem lohi {l : List T3} (hf : frames l = true) (h0 : 0 < l.length) : ∀ k, k ≤ l.length → (0 ≤ minTo (nums l) k ∧ minTo (nums l) k ≤ 100000) ∧ (0 ≤ maxTo (nums l) k ∧ maxTo (nums l) k ≤ 100000) := by
  have hb : ∀ k, k < l.length → 0 ≤ atI (nums l) k ∧ atI (nums l) k ≤ 100000 := fun k hk => by
    unfold frames at hf
    rw [Bool.and_eq_true, allN_iff] at hf
    have := hf.1 k hk
    unfold fokAt fok at this
    simp only [Bool.and_eq_true, btw_iff] at this
    rw [atI_nums hk]
    exact this.1.1
  intro k
  induction k with
  | zero => intro _; exact ⟨hb 0 h0, hb 0 h0⟩
  | succ k ih =>
    intro hk
    have h1 := ih (by omega)
    have h2 := hb k (by omega)
    unfold minTo maxTo gmin gmax
    constructor <;> (split <;> omega)
/-- The numbers from lo on, n of them, that are not among the frames' numbers. -/
def gaps (l : List T3) (lo : Int) (n : Nat) : List Int := ((List.range n).filter fun (j : Nat) => !memI (nums l) (lo + (j : Int))).map fun (j : Nat) => lo + (j : Int)
theorem gaps_yes {l : List T3} {lo : Int} {k : Nat} (h : memI (nums l) (lo + k) = false) : gaps l lo (k + 1) = gaps l lo k ++ [lo + k] := by simp [gaps, List.range_succ, h]
theorem gaps_no {l : List T3} {lo : Int} {k : Nat} (h : memI (nums l) (lo + k) = true) : gaps l lo (k + 1) = gaps l lo k := by simp [gaps, List.range_succ, h]
theorem gaps_len (l : List T3) (lo : Int) (n : Nat) : (gaps l lo n).length ≤ n := by
  have := List.length_filter_le (fun (j : Nat) => !memI (nums l) (lo + (j : Int))) (List.range n)
  simp only [gaps, List.length_map]
  simpa using this
def miss (l : List T3) : List Int := if frames l && decide (l.length ≠ 0) && decide (hiF l - loF l ≤ 500) then gaps l (loF l) (hiF l - loF l + 1).toNat else []
theorem miss_yes {l : List T3} (h1 : frames l = true) (h2 : l.length ≠ 0) (h3 : hiF l - loF l ≤ 500) : miss l = gaps l (loF l) (hiF l - loF l + 1).toNat := by unfold miss; rw [h1, decide_eq_true h2, decide_eq_true h3]; rfl
theorem miss_no1 {l : List T3} (h : frames l = false) : miss l = [] := by unfold miss; rw [h]; rfl
theorem miss_no2 {l : List T3} (h : l.length = 0) : miss l = [] := by unfold miss; rw [h]; simp
theorem miss_no3 {l : List T3} (h : ¬ hiF l - loF l ≤ 500) : miss l = [] := by unfold miss; rw [decide_eq_false h]; simp
theorem miss_len (l : List T3) : (miss l).length ≤ 501 := by
  unfold miss
  split
  · rename_i h
    simp only [Bool.and_eq_true, decide_eq_true_eq] at h
    have := gaps_len l (loF l) (hiF l - loF l + 1).toNat
    omega
  · simp
theorem MinL (A : Option Addr) (n c : Nat) (l : List T3) (w : World) (hl : Row w A ((nums l).map (Value.int .i64))) (hn : l.length = n) (hx : n ≤ 9223372036854775807) (h0 : 0 < n) :
    Gives Try.prog 19 #[.slice A n c] w (.int .i64 (loF l)) := by
  have := Min_any A n c (nums l) w hl (by rw [nums_len]; exact hn) hx h0
  subst hn
  exact this
theorem MaxL (A : Option Addr) (n c : Nat) (l : List T3) (w : World) (hl : Row w A ((nums l).map (Value.int .i64))) (hn : l.length = n) (hx : n ≤ 9223372036854775807) (h0 : 0 < n) :
    Gives Try.prog 20 #[.slice A n c] w (.int .i64 (hiF l)) := by
  have := Max_any A n c (nums l) w hl (by rw [nums_len]; exact hn) hx h0
  subst hn
  exact this
theorem iMissing_any (A : Option Addr) (n c : Nat) (l : List T3) (w : World) (hl : Row w A (l.flatMap T3.v)) (hn : l.length = n) (hx : n ≤ 1048577) :
    Calls Try.prog 7 #[.slice A n c] w fun en w' => ∃ A' m c', en = .returned (.slice A' m c') ∧ w'.ownsRow w.heap.size 3 1 (.slice A' m c') m ((miss l).map (Value.int .i64)) ∧ Ext w w' := by
  subst hn
  cases hf : frames l
  · have HN := hid (miss_no1 hf)
    go_enter Try.func7, Try.ntmps7
    go_wp2_with (go_at_call 18; refine (framesOk_any _ _ _ l _ (hl.ext (by repeat (first | exact Ext.refl _ | refine Ext.alloc ?_ _ | assumption | refine Ext.over ?_ _ | refine Ext.drew ?_ | refine Ext.drewN ?_ _))) rfl (by omega)).over.mono ?_; rintro e w' ⟨rfl, xw, rfl⟩)
    go_ret
    rw [HN.out]
    refine ⟨none, 0, 0, rfl, World.ownsRow_nil _ _ _ _, ?_⟩
    repeat (first | exact Ext.refl _ | refine Ext.alloc ?_ _ | assumption | refine Ext.over ?_ _ | refine Ext.drew ?_ | refine Ext.drewN ?_ _)
  by_cases h0 : l.length = 0
  · have HN := hid (miss_no2 h0)
    have hz : (((l.length : Nat) : Int) == 0) = true := by rw [h0]; rfl
    clear h0
    go_enter Try.func7, Try.ntmps7
    go_wp2_with (go_at_call 18; refine (framesOk_any _ _ _ l _ (hl.ext (by repeat (first | exact Ext.refl _ | refine Ext.alloc ?_ _ | assumption | refine Ext.over ?_ _ | refine Ext.drew ?_ | refine Ext.drewN ?_ _))) rfl (by omega)).over.mono ?_; rintro e w' ⟨rfl, xw, rfl⟩)
    go_ret
    rw [HN.out]
    refine ⟨none, 0, 0, rfl, World.ownsRow_nil _ _ _ _, ?_⟩
    repeat (first | exact Ext.refl _ | refine Ext.alloc ?_ _ | assumption | refine Ext.over ?_ _ | refine Ext.drew ?_ | refine Ext.drewN ?_ _)
  have hz : (((l.length : Nat) : Int) == 0) = false := by simp only [beq_eq_false_iff_ne]; omega
  obtain ⟨⟨(lo1 : 0 ≤ loF l), (lo2 : loF l ≤ 100000)⟩, (hi1 : 0 ≤ hiF l), (hi2 : hiF l ≤ 100000)⟩ := lohi hf (by omega) l.length (Nat.le_refl _)
  have H0 := hid h0
  clear h0
  have hlf : l.length ≤ 60 := by
    unfold frames at hf
    rw [Bool.and_eq_true, decide_eq_true_eq] at hf
    exact hf.2
  go_enter Try.func7, Try.ntmps7
  go_wp2_with (go_at_call 18; refine (framesOk_any _ _ _ l _ (hl.ext (by repeat (first | exact Ext.refl _ | refine Ext.alloc ?_ _ | assumption | refine Ext.over ?_ _ | refine Ext.drew ?_ | refine Ext.drewN ?_ _))) rfl (by omega)).over.mono ?_; rintro e w' ⟨rfl, xw, rfl⟩)
  go_loopw [3, 21] (fun o i wr => ∃ (k : Nat) (A' : Option Addr) (c' : Nat), k ≤ l.length ∧ i = .int .i64 ↑k ∧ o = .slice A' k c' ∧ wr.ownsRow w.heap.size 3 1 (.slice A' k c') k (((nums l).take k).map (Value.int .i64)) ∧ Ext w wr) (fun _ i _ => (l.length - (intOf i).toNat))
  case atStart =>
    refine ⟨0, _, _, by omega, rfl, rfl, own_empty _ _ _ (by simp [ovr_size]) (by simp [ovr_size]) _ _, ?_⟩
    repeat (first | exact Ext.refl _ | refine Ext.alloc ?_ _ | assumption | refine Ext.over ?_ _ | refine Ext.drew ?_ | refine Ext.drewN ?_ _)
  case round =>
    obtain ⟨k, A', c', hk, rfl, rfl, hown, he⟩ := hrel
    obtain ⟨x, rfl⟩ := he.ex
    have HO := hid hown
    clear hown
    by_cases hlt : k < l.length
    · obtain ⟨b, off, rfl, hc⟩ := hl.t3 hlt
      obtain ⟨c1, c2, c3⟩ := hc k (by omega)
      have HS := hid (nums_take_snoc hlt)
      clear hc hl
      go_wp2_with (at_builtin; refine wpList_push (w) rfl (.tmp 25) (.tmp 28) 26 rfl 3 Try.underlying26 info_int rfl (by decide) _ k _ rfl (ovr w x) HO.out (by repeat (first | exact Ext.refl _ | refine Ext.alloc ?_ _ | assumption | refine Ext.over ?_ _ | refine Ext.drew ?_ | refine Ext.drewN ?_ _)) (by repeat (first | exact Ext.refl _ | refine Ext.alloc ?_ _ | assumption | refine Ext.over ?_ _ | refine Ext.drew ?_ | refine Ext.drewN ?_ _)) _ 1 1 [.int .i64 ((at3 l k).a)] rfl rfl (lit_cells _ _ (by first | (simp; done) | simp [ovr_size]) _ _) (by intro u hu; simp at hu; subst hu; rfl) (by omega) (by decide) ?_)
      intro A2 c2 w2 hown2 he2
      have HO2 := hid hown2
      clear hown2 HO
      go_wp2_with fail
      go_roundw
      case rel =>
        refine ⟨k + 1, A2, c2, by omega, by go_num, rfl, ?_, he2⟩
        rw [HS.out]
        simpa using HO2.out
      case measure => simp [intOf]; omega
    · obtain rfl : k = l.length := by omega
      have hr : Row (ovr w x) A' ((nums l).map (Value.int .i64)) := by
        have := Row.of_own HO.out
        rwa [List.take_of_length_le (by rw [nums_len]; omega)] at this
      clear hl he HO
      by_cases h5 : hiF l - loF l ≤ 500
      · have HN := hid (miss_yes hf H0.out h5)
        go_wp2_with (go_at_call 19; refine (MinL _ _ _ l _ (hr.ext (by repeat (first | exact Ext.refl _ | refine Ext.alloc ?_ _ | assumption | refine Ext.over ?_ _ | refine Ext.drew ?_ | refine Ext.drewN ?_ _))) rfl (by omega) (by have := H0.out; omega)).over.mono ?_; rintro e w' ⟨rfl, xw, rfl⟩)
        go_wp2_with (go_at_call 20; refine (MaxL _ _ _ l _ (hr.ext (by repeat (first | exact Ext.refl _ | refine Ext.alloc ?_ _ | assumption | refine Ext.over ?_ _ | refine Ext.drew ?_ | refine Ext.drewN ?_ _))) rfl (by omega) (by have := H0.out; omega)).over.mono ?_; rintro e w' ⟨rfl, xw, rfl⟩)
        go_wp2_with fail
        go_loopw [8, 9] (fun o i wr => ∃ (j : Nat) (A2 : Option Addr) (m c2 : Nat), (j : Int) ≤ 501 ∧ (j : Int) ≤ (hiF l - loF l + 1).toNat ∧ i = .int .i64 (loF l + j) ∧ o = .slice A2 m c2 ∧ m ≤ j ∧ wr.ownsRow (ovr w x).heap.size 3 1 (.slice A2 m c2) m ((gaps l (loF l) j).map (Value.int .i64)) ∧ Ext (ovr w x) wr) (fun _ i _ => (hiF l + 1 - intOf i).toNat)
        case atStart =>
          refine ⟨0, _, _, _, by omega, by omega, by simp, rfl, by omega, ?_, ?_⟩
          · exact own_empty _ _ _ (by simp [ovr_size]) (by simp only [ovr_size]; omega) _ _
          · repeat (first | exact Ext.refl _ | refine Ext.alloc ?_ _ | assumption | refine Ext.over ?_ _ | refine Ext.drew ?_ | refine Ext.drewN ?_ _)
        case round =>
          obtain ⟨j, A2, m, c2, hj, hj2, rfl, rfl, hm, hown, he⟩ := hrel
          obtain ⟨y, rfl⟩ := he.ex
          have HO := hid hown
          clear hown
          by_cases hlt : (j : Int) < (hiF l - loF l + 1).toNat
          · have hv : loF l + j ≤ hiF l := by omega
            cases hb : memI (nums l) (loF l + j)
            · have HG := hid (gaps_yes hb)
              go_wp2_with (first | (go_at_call 21; refine (Contains_any _ _ _ (nums l) _ _ (hr.ext (by repeat (first | exact Ext.refl _ | refine Ext.alloc ?_ _ | assumption | refine Ext.over ?_ _ | refine Ext.drew ?_ | refine Ext.drewN ?_ _))) (nums_len l) (by omega)).over.mono ?_; rintro e w' ⟨rfl, xw, rfl⟩) | (at_builtin; refine wpList_push (ovr w x) rfl (.tmp 50) (.tmp 52) 26 rfl 3 Try.underlying26 info_int rfl (by decide) _ m _ rfl (ovr (ovr w x) y) HO.out (by repeat (first | exact Ext.refl _ | refine Ext.alloc ?_ _ | assumption | refine Ext.over ?_ _ | refine Ext.drew ?_ | refine Ext.drewN ?_ _)) (by repeat (first | exact Ext.refl _ | refine Ext.alloc ?_ _ | assumption | refine Ext.over ?_ _ | refine Ext.drew ?_ | refine Ext.drewN ?_ _)) _ 1 1 [.int .i64 (loF l + j)] rfl rfl (lit_cells _ _ (by first | (simp; done) | simp [ovr_size]) _ _) (by intro u hu; simp at hu; subst hu; rfl) (by omega) (by decide) ?_))
              intro A3 c3 w3 hown3 he3
              have HO3 := hid hown3
              clear hown3 HO
              go_wp2_with fail
              go_roundw
              case rel =>
                refine ⟨j + 1, A3, m + 1, c3, by omega, by omega, by go_num, rfl, by omega, ?_, he3⟩
                have h := HO3.out
                rw [← ovr_size] at h
                simpa only [HG.out, List.map_append, List.map_cons, List.map_nil] using h
              case measure => simp [intOf]; omega
            · have HG := hid (gaps_no hb)
              go_wp2_with (go_at_call 21; refine (Contains_any _ _ _ (nums l) _ _ (hr.ext (by repeat (first | exact Ext.refl _ | refine Ext.alloc ?_ _ | assumption | refine Ext.over ?_ _ | refine Ext.drew ?_ | refine Ext.drewN ?_ _))) (nums_len l) (by omega)).over.mono ?_; rintro e w' ⟨rfl, xw, rfl⟩)
              go_roundw
              case rel =>
                refine ⟨j + 1, A2, m, c2, by omega, by omega, by go_num, rfl, by omega, ?_, ?_⟩
                · rw [HG.out]
                  exact own_ext HO.out (by repeat (first | exact Ext.refl _ | refine Ext.alloc ?_ _ | assumption | refine Ext.over ?_ _ | refine Ext.drew ?_ | refine Ext.drewN ?_ _))
                · repeat (first | exact Ext.refl _ | refine Ext.alloc ?_ _ | assumption | refine Ext.over ?_ _ | refine Ext.drew ?_ | refine Ext.drewN ?_ _)
              case measure => simp [intOf]; omega
          · have hv : ¬ loF l + j ≤ hiF l := by omega
            obtain rfl : j = (hiF l - loF l + 1).toNat := by omega
            go_wp2_with fail
            go_ret
            rw [HN.out]
            refine ⟨A2, m, c2, rfl, own_ext (own_base HO.out (by simp only [ovr_size]; omega)) ?_, ?_⟩
            · repeat (first | exact Ext.refl _ | refine Ext.alloc ?_ _ | assumption | refine Ext.over ?_ _ | refine Ext.drew ?_ | refine Ext.drewN ?_ _)
            · repeat (first | exact Ext.refl _ | refine Ext.alloc ?_ _ | assumption | refine Ext.over ?_ _ | refine Ext.drew ?_ | refine Ext.drewN ?_ _)
      · have HN := hid (miss_no3 (l := l) h5)
        go_wp2_with (go_at_call 19; refine (MinL _ _ _ l _ (hr.ext (by repeat (first | exact Ext.refl _ | refine Ext.alloc ?_ _ | assumption | refine Ext.over ?_ _ | refine Ext.drew ?_ | refine Ext.drewN ?_ _))) rfl (by omega) (by have := H0.out; omega)).over.mono ?_; rintro e w' ⟨rfl, xw, rfl⟩)
        go_wp2_with (go_at_call 20; refine (MaxL _ _ _ l _ (hr.ext (by repeat (first | exact Ext.refl _ | refine Ext.alloc ?_ _ | assumption | refine Ext.over ?_ _ | refine Ext.drew ?_ | refine Ext.drewN ?_ _))) rfl (by omega) (by have := H0.out; omega)).over.mono ?_; rintro e w' ⟨rfl, xw, rfl⟩)
        go_wp2_with fail
        go_ret
        rw [HN.out]
        refine ⟨none, 0, 0, rfl, World.ownsRow_nil _ _ _ _, ?_⟩
        repeat (first | exact Ext.refl _ | refine Ext.alloc ?_ _ | assumption | refine Ext.over ?_ _ | refine Ext.drew ?_ | refine Ext.drewN ?_ _)

/-! ### The reference's MissingFrames -/
def hasTo (l : List T3) (v : Int) : Nat → Bool
  | 0 => false
  | j + 1 => hasTo l v j || (at3 l j).a == v
theorem hasTo_iff (l : List T3) (v : Int) (j : Nat) : hasTo l v j = true ↔ ∃ i, i < j ∧ (at3 l i).a = v := by
  induction j with
  | zero => simp [hasTo]
  | succ j ih =>
    rw [hasTo, Bool.or_eq_true, ih, beq_iff_eq]
    constructor
    · rintro (⟨i, h1, h2⟩ | h)
      · exact ⟨i, by omega, h2⟩
      · exact ⟨j, by omega, h⟩
    · rintro ⟨i, h1, h2⟩
      by_cases h : i = j
      · subst h; exact .inr h2
      · exact .inl ⟨i, by omega, h2⟩
theorem hasTo_all (l : List T3) (v : Int) : hasTo l v l.length = memI (nums l) v := by
  rw [Bool.eq_iff_iff, hasTo_iff, memI_iff]
  constructor
  · rintro ⟨i, h1, h2⟩
    rw [at3_eq l i h1] at h2
    exact List.mem_map.2 ⟨l[i], List.getElem_mem h1, h2⟩
  · intro h
    obtain ⟨x, hx, e⟩ := List.mem_map.1 h
    obtain ⟨i, h1, rfl⟩ := List.getElem_of_mem hx
    exact ⟨i, h1, by rw [at3_eq l i h1]; exact e⟩
def missN (l : List T3) : Nat := if hiF l - loF l ≤ 500 then (hiF l - loF l + 1).toNat else 0
theorem miss_n {l : List T3} (h1 : frames l = true) (h2 : l.length ≠ 0) : miss l = gaps l (loF l) (missN l) := by
  unfold missN
  split
  · rw [miss_yes h1 h2 (by assumption)]
  · rw [miss_no3 (by assumption)]; rfl
end Go.Proofs.Ytnjmhdlcmbpfpaa
