/- Walks: the guards after a search, of the program. Conditions: sizes. -/
import Derived.Test.YtngniniiohgilaaHas
import Derived.Test.YtngniniiohgilaaInts
namespace Go.Proofs.Ytngniniiohgilaa
open Go.RowKit
set_option linter.unusedVariables false

def memN (s : List Int) (k : Nat) : Bool := memI s k
def openTo (u : Nat → Bool) (l : List T2) (h a : Nat) : Bool := (List.range h).any fun b => hasD l a b && !u b
def gaP (u : Nat → Bool) (l : List T2) (h a : Nat) : Bool := u a && openTo u l h a
def gaL (u : Nat → Bool) (l : List T2) (h : Nat) : List Int := idxs (gaP u l h) h
theorem gaL_len (u : Nat → Bool) (l : List T2) (h : Nat) : (gaL u l h).length ≤ h := idxs_len _ _
theorem gaL_congr {u u' : Nat → Bool} {l : List T2} {h : Nat} (e : ∀ k, k < h → u k = u' k) : gaL u l h = gaL u' l h := by
  unfold gaL idxs
  congr 1
  apply List.filter_congr
  intro a ha
  rw [List.mem_range] at ha
  unfold gaP openTo
  rw [e a ha]
  congr 1
  rw [Bool.eq_iff_iff, List.any_eq_true, List.any_eq_true]
  constructor
  · rintro ⟨b, hb, h2⟩; exact ⟨b, hb, by rw [← e b (List.mem_range.1 hb)]; exact h2⟩
  · rintro ⟨b, hb, h2⟩; exact ⟨b, hb, by rw [e b (List.mem_range.1 hb)]; exact h2⟩
theorem links_any (s : List Int) (l : List T2) (h k : Nat) : (links l k h).any (fun x => !memI s x) = openTo (memN s) l h k := by
  unfold links idxs openTo
  rw [List.any_map, List.any_filter]
  rfl
theorem list_any {l : List Int} {f : Int → Bool} {q : Bool} (h : decide (0 ≤ firstN l.length (fun j => f (atI l j))) = q) : l.any f = q := by
  rw [← h, Bool.eq_iff_iff, List.any_eq_true, decide_eq_true_eq, firstN_nonneg]
  constructor
  · rintro ⟨x, hx, hf⟩
    obtain ⟨k, hk, rfl⟩ := List.getElem_of_mem hx
    exact ⟨k, hk, by rw [atI_eq _ _ hk]; exact hf⟩
  · rintro ⟨k, hk, hf⟩
    exact ⟨_, List.getElem_mem hk, by rw [← atI_eq _ _ hk]; exact hf⟩
/-- What a closure over one slice is asked at every element of a list. -/
def ClgAt (a1 : Nat) (w : World) (l : List Int) (f : Int → Bool) : Prop := ∀ k ∈ l, ∀ w', Ext w w' → Gives Try.prog 81 #[.int .i64 k, .pointer (some ⟨a1, 0, none⟩)] w' (.bool (f k))
theorem clg_at {l s : List Int} (B : Option Addr) (m d a1 : Nat) (w : World) (hs : Row w B (s.map (Value.int .i64))) (hm : s.length = m) (hy : m ≤ 1048577) (h1 : w.cell? ⟨a1, 0, none⟩ = some (.slice B m d)) : ClgAt a1 w l (fun x => !memI s x) := by
  intro k hk w' he
  have c1 := old_cell he h1
  have HS := hid (hs.ext he)
  clear hs h1 hk he
  (unfold Gives; go_enter Try.func81, Try.ntmps81)
  go_wp2_with (go_at_call 49; refine (Contains_any _ _ _ s _ _ (HS.out.ext (by repeat (first | exact Ext.refl _ | refine Ext.alloc ?_ _ | assumption | refine Ext.over ?_ _ | refine Ext.drew ?_ | refine Ext.drewN ?_ _))) hm (by omega)).over.mono ?_; rintro e w' ⟨rfl, xw, rfl⟩)
  go_ret
  exact ⟨rfl, by repeat (first | exact Ext.refl _ | refine Ext.alloc ?_ _ | assumption | refine Ext.over ?_ _ | refine Ext.drew ?_ | refine Ext.drewN ?_ _)⟩
set_option maxHeartbeats 1600000 in
theorem IndexG_any (A : Option Addr) (n c : Nat) (l : List Int) (a1 : Nat) (f : Int → Bool) (w : World) (hl : Row w A (l.map (Value.int .i64))) (hn : l.length = n) (hx : n ≤ 9223372036854775807) (hf : ClgAt a1 w l f) :
    Gives Try.prog 74 #[.slice A n c, .func (.func 81) #[] #[.pointer (some ⟨a1, 0, none⟩)]] w (.int .i64 (firstN l.length (fun j => f (atI l j)))) := by
  subst hn
  unfold Gives
  have HF := hid hf
  clear hf
  go_enter Try.func74, Try.ntmps74
  go_wp2_with fail
  go_loopw [8] (fun i wr => ∃ (k : Nat), (∀ j, j < k → f (atI l j) = false) ∧ k ≤ l.length ∧ i = .int .i64 ↑k ∧ Ext w wr) (fun i _ => (l.length - (intOf i).toNat))
  case atStart => exact ⟨0, by omega, by omega, rfl, Ext.refl _⟩
  case round =>
    obtain ⟨k, hk, hkn, rfl, he⟩ := hrel
    have HK := hid hk
    have HE := hid he
    obtain ⟨x, rfl⟩ := he.ex
    clear hk he
    by_cases hlt : k < l.length
    · obtain ⟨b, off, rfl, hc⟩ := hl.ints hlt
      have c1 := hc k hlt
      clear hc
      have HM := hid (show atI l k ∈ l by rw [atI_eq l k hlt]; exact List.getElem_mem hlt)
      have he := HE.out
      cases hv : f (atI l k)
      · go_wp2_with (go_at_call 81; refine (HF.out (atI l k) HM.out _ he).over.mono ?_; rintro e w' ⟨rfl, xw, rfl⟩)
        go_roundw
        case rel =>
          refine ⟨k + 1, lt_succ_all HK.out hv, by omega, by go_num, ?_⟩
          repeat (first | exact Ext.refl _ | refine Ext.alloc ?_ _ | assumption | refine Ext.over ?_ _ | refine Ext.drew ?_ | refine Ext.drewN ?_ _)
        case measure => simp [intOf]; omega
      · go_wp2_with (go_at_call 81; refine (HF.out (atI l k) HM.out _ he).over.mono ?_; rintro e w' ⟨rfl, xw, rfl⟩)
        go_ret
        refine ⟨by rw [firstN_hit HK.out hlt hv]; rfl, ?_⟩
        repeat (first | exact Ext.refl _ | refine Ext.alloc ?_ _ | assumption | refine Ext.over ?_ _ | refine Ext.drew ?_ | refine Ext.drewN ?_ _)
    · go_wp2_with fail
      go_ret
      exact ⟨by rw [firstN_none (fun j hj => HK.out j (by omega))]; rfl, HE.out⟩
theorem ContainsG_any (A : Option Addr) (n c : Nat) (l : List Int) (a1 : Nat) (f : Int → Bool) (w : World) (hl : Row w A (l.map (Value.int .i64))) (hn : l.length = n) (hx : n ≤ 9223372036854775807) (hf : ClgAt a1 w l f) :
    Gives Try.prog 80 #[.slice A n c, .func (.func 81) #[] #[.pointer (some ⟨a1, 0, none⟩)]] w (.bool (l.any f)) := by
  have HF := hid hf
  clear hf
  unfold Gives
  subst hn
  have HQ := hid (list_any (l := l) (f := f) rfl)
  go_enter Try.func80, Try.ntmps80
  go_wp2_with (go_at_call 74; refine (IndexG_any _ _ _ l a1 f _ hl rfl hx HF.out).over.mono ?_; rintro e w' ⟨rfl, xw, rfl⟩)
  go_ret
  refine ⟨by rw [HQ.out]; rfl, ?_⟩
  repeat (first | exact Ext.refl _ | refine Ext.alloc ?_ _ | assumption | refine Ext.over ?_ _ | refine Ext.drew ?_ | refine Ext.drewN ?_ _)
set_option maxHeartbeats 3200000 in
set_option maxRecDepth 100000 in
theorem iga_any (h : Nat) (A : Option Addr) (n c : Nat) (l : List T2) (B : Option Addr) (m d : Nat) (s : List Int) (w : World) (hl : Row w A (l.flatMap T2.v)) (hn : l.length = n) (hx : n ≤ 12) (h7 : h ≤ 7) (hf : doorsOk h l = true) (hs : Row w B (s.map (Value.int .i64))) (hm : s.length = m) (hy : m ≤ 1048577) :
    Calls Try.prog 56 #[.agg #[.int .i64 h, .slice A n c], .slice B m d] w fun en w' => ∃ A' m' c', en = .returned (.slice A' m' c') ∧ w'.ownsRow w.heap.size 3 1 (.slice A' m' c') m' ((gaL (memN s) l h).map (Value.int .i64)) ∧ Ext w w' := by
  subst hn hm
  have HD := hid hf
  clear hf
  obtain ⟨wb, hwb⟩ : ∃ wb, wb = (w.alloc (.cells #[.int .i64 ↑h, .slice A l.length c] 26)).alloc (.cells #[.slice B s.length d] 31) := ⟨_, rfl⟩
  have hew : Ext w wb := by rw [hwb]; repeat (first | exact Ext.refl _ | refine Ext.alloc ?_ _ | assumption | refine Ext.over ?_ _ | refine Ext.drew ?_ | refine Ext.drewN ?_ _)
  have hsz := hid (show wb.heap.size = w.heap.size + 2 by rw [hwb]; simp)
  have hb0 : wb.cell? ⟨w.heap.size, 0, none⟩ = some (.int .i64 ↑h) := by rw [hwb]; go_simp
  have hb1 : wb.cell? ⟨w.heap.size, 1, none⟩ = some (.slice A l.length c) := by rw [hwb]; go_simp
  have hb2 : wb.cell? ⟨w.heap.size + 1, 0, none⟩ = some (.slice B s.length d) := by rw [hwb]; go_simp
  go_enter Try.func56, Try.ntmps56
  go_wp2_with fail
  go_loopw [5, 6] (fun o i wr => ∃ (k : Nat) (A' : Option Addr) (m' c' : Nat), k ≤ h ∧ m' ≤ k ∧ i = .int .i64 ↑k ∧ o = .slice A' m' c' ∧ wr.ownsRow wb.heap.size 3 1 (.slice A' m' c') m' ((idxs (gaP (memN s) l h) k).map (Value.int .i64)) ∧ Ext wb wr) (fun _ i _ => (h - (intOf i).toNat))
  case atStart =>
    refine ⟨0, _, _, _, by omega, by omega, rfl, rfl, by rw [hwb]; exact own_empty _ _ _ (by simp) (by simp) _ _, by rw [hwb]; repeat (first | exact Ext.refl _ | refine Ext.alloc ?_ _ | assumption | refine Ext.over ?_ _ | refine Ext.drew ?_ | refine Ext.drewN ?_ _)⟩
  clear hwb
  case round =>
    obtain ⟨k, A', m', c', hk, hmk, rfl, rfl, hown, he⟩ := hrel
    obtain ⟨x0, rfl⟩ := he.ex
    have b0 := old_cell he hb0
    have b1 := old_cell he hb1
    have b2 := old_cell he hb2
    have HE := hid he
    have HO := hid hown
    have HR := hid (hl.ext (hew.trans he))
    have HS := hid (hs.ext (hew.trans he))
    clear hown he
    by_cases hlt : k < h
    · go_wp2_with fail
      refine (linksOf_any h A l.length c l k _ (HR.out.ext (by repeat (first | exact Ext.refl _ | refine Ext.alloc ?_ _ | assumption | refine Ext.over ?_ _ | refine Ext.drew ?_ | refine Ext.drewN ?_ _))) rfl hx h7 HD.out).mono ?_
      rintro _ w2 ⟨A1, m1, c1, rfl, ho, he2⟩
      have p0 := old_cell he2 b0
      have p1 := old_cell he2 b1
      have p2 := old_cell he2 b2
      have hm1 := own_len1 ho
      have HL := hid (Row.of_own ho)
      have HS2 := hid (HS.out.ext he2)
      have HO2 := hid (own_ext HO.out he2)
      have HE2 := hid (HE.out.trans he2)
      have hm1' : (links l k h).length = m1 := by simpa using hm1
      have hlk := links_len l k h
      clear ho he2 b0 b1 b2 HO HE hm1
      cases hop : openTo (memN s) l h k
      · have HV := hid ((links_any s l h k).trans hop)
        have HI := hid (idxs_no (p := gaP (memN s) l h) (k := k) (by unfold gaP; rw [hop]; simp))
        go_wp2_with (first | (go_at_call 80; refine (gives_b HV.out (ContainsG_any _ _ _ (links l k h) _ (fun x => !memI s x) _ (HL.out.ext (by repeat (first | exact Ext.refl _ | refine Ext.alloc ?_ _ | assumption | refine Ext.over ?_ _ | refine Ext.drew ?_ | refine Ext.drewN ?_ _))) hm1' (by omega) (clg_at B s.length d _ _ (HS2.out.ext (by repeat (first | exact Ext.refl _ | refine Ext.alloc ?_ _ | assumption | refine Ext.over ?_ _ | refine Ext.drew ?_ | refine Ext.drewN ?_ _))) rfl hy (by go_simp)))).over.mono ?_; rintro e w' ⟨rfl, xw, rfl⟩) | (go_at_call 49; refine (Contains_any _ _ _ s _ _ (HS2.out.ext (by repeat (first | exact Ext.refl _ | refine Ext.alloc ?_ _ | assumption | refine Ext.over ?_ _ | refine Ext.drew ?_ | refine Ext.drewN ?_ _))) rfl (by omega)).over.mono ?_; rintro e w' ⟨rfl, xw, rfl⟩))
        all_goals
          go_roundw
          case rel => exact ⟨k + 1, _, m', c', by omega, by omega, by go_num, rfl, by rw [HI.out]; exact own_ext HO2.out (by repeat (first | exact Ext.refl _ | refine Ext.alloc ?_ _ | assumption | refine Ext.over ?_ _ | refine Ext.drew ?_ | refine Ext.drewN ?_ _)), HE2.out.trans (by repeat (first | exact Ext.refl _ | refine Ext.alloc ?_ _ | assumption | refine Ext.over ?_ _ | refine Ext.drew ?_ | refine Ext.drewN ?_ _))⟩
          case measure => simp [intOf]; omega
      have HV := hid ((links_any s l h k).trans hop)
      cases hmem : memI s k
      · have HI := hid (idxs_no (p := gaP (memN s) l h) (k := k) (by unfold gaP memN; rw [hmem]; rfl))
        go_wp2_with (first | (go_at_call 80; refine (gives_b HV.out (ContainsG_any _ _ _ (links l k h) _ (fun x => !memI s x) _ (HL.out.ext (by repeat (first | exact Ext.refl _ | refine Ext.alloc ?_ _ | assumption | refine Ext.over ?_ _ | refine Ext.drew ?_ | refine Ext.drewN ?_ _))) hm1' (by omega) (clg_at B s.length d _ _ (HS2.out.ext (by repeat (first | exact Ext.refl _ | refine Ext.alloc ?_ _ | assumption | refine Ext.over ?_ _ | refine Ext.drew ?_ | refine Ext.drewN ?_ _))) rfl hy (by go_simp)))).over.mono ?_; rintro e w' ⟨rfl, xw, rfl⟩) | (go_at_call 49; refine (gives_b hmem (Contains_any _ _ _ s _ _ (HS2.out.ext (by repeat (first | exact Ext.refl _ | refine Ext.alloc ?_ _ | assumption | refine Ext.over ?_ _ | refine Ext.drew ?_ | refine Ext.drewN ?_ _))) rfl (by omega))).over.mono ?_; rintro e w' ⟨rfl, xw, rfl⟩))
        go_roundw
        case rel => exact ⟨k + 1, _, m', c', by omega, by omega, by go_num, rfl, by rw [HI.out]; exact own_ext HO2.out (by repeat (first | exact Ext.refl _ | refine Ext.alloc ?_ _ | assumption | refine Ext.over ?_ _ | refine Ext.drew ?_ | refine Ext.drewN ?_ _)), HE2.out.trans (by repeat (first | exact Ext.refl _ | refine Ext.alloc ?_ _ | assumption | refine Ext.over ?_ _ | refine Ext.drew ?_ | refine Ext.drewN ?_ _))⟩
        case measure => simp [intOf]; omega
      · have HI := hid (idxs_yes (p := gaP (memN s) l h) (k := k) (by unfold gaP memN; rw [hmem]; exact hop))
        go_wp2_with (first | (go_at_call 80; refine (gives_b HV.out (ContainsG_any _ _ _ (links l k h) _ (fun x => !memI s x) _ (HL.out.ext (by repeat (first | exact Ext.refl _ | refine Ext.alloc ?_ _ | assumption | refine Ext.over ?_ _ | refine Ext.drew ?_ | refine Ext.drewN ?_ _))) hm1' (by omega) (clg_at B s.length d _ _ (HS2.out.ext (by repeat (first | exact Ext.refl _ | refine Ext.alloc ?_ _ | assumption | refine Ext.over ?_ _ | refine Ext.drew ?_ | refine Ext.drewN ?_ _))) rfl hy (by go_simp)))).over.mono ?_; rintro e w' ⟨rfl, xw, rfl⟩) | (go_at_call 49; refine (gives_b hmem (Contains_any _ _ _ s _ _ (HS2.out.ext (by repeat (first | exact Ext.refl _ | refine Ext.alloc ?_ _ | assumption | refine Ext.over ?_ _ | refine Ext.drew ?_ | refine Ext.drewN ?_ _))) rfl (by omega))).over.mono ?_; rintro e w' ⟨rfl, xw, rfl⟩) | (at_builtin; refine wpList_push (wb) rfl (.tmp 26) (.tmp 28) 31 rfl 3 Try.underlying31 info_int rfl (by decide) _ m' _ rfl (w2) HO2.out (by repeat (first | exact Ext.refl _ | refine Ext.alloc ?_ _ | assumption | refine Ext.over ?_ _ | refine Ext.drew ?_ | refine Ext.drewN ?_ _)) (by repeat (first | exact Ext.refl _ | refine Ext.alloc ?_ _ | assumption | refine Ext.over ?_ _ | refine Ext.drew ?_ | refine Ext.drewN ?_ _)) _ 1 1 [.int .i64 (k)] rfl rfl (lit_cells _ _ (by first | (simp; done) | simp [ovr_size]) _ _) (by intro u hu; simp at hu; subst hu; rfl) (by omega) (by decide) ?_))
        intro A3 c3 w3 hown3 he3
        have HO3 := hid hown3
        clear hown3 HO2
        go_wp2_with fail
        go_roundw
        case rel => exact ⟨k + 1, A3, m' + 1, c3, by omega, by omega, by go_num, rfl, by rw [HI.out]; simpa using HO3.out, he3⟩
        case measure => simp [intOf]; omega
    · go_wp2_with fail
      go_ret
      obtain rfl : k = h := by omega
      exact ⟨_, _, _, rfl, own_base HO.out (by have := hsz.out; omega), hew.trans HE.out⟩
end Go.Proofs.Ytngniniiohgilaa
