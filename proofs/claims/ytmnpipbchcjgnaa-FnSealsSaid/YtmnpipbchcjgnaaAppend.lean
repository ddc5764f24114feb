/- Walks: AppendEntry. Conditions: sizes. -/
import Derived.Test.YtmnpipbchcjgnaaBroken
import Derived.Test.YtmnpipbchcjgnaaPush
namespace Go.Proofs.Ytmnpipbchcjgnaa
open Go.RowKit
set_option linter.unusedVariables false

theorem info_EntryA : (Try.prog.info? 31).map (fun i => (i.zero, i.size, i.bytes)) = some (some (.agg #[.int .i64 0, .string ByteArray.empty, .int .i64 0]), 3, 32) := by kernel_rfl
theorem en_one {l : List EN} : ∀ u ∈ l.flatMap EN.v, u.oneCell' = true := by
  intro u hu
  obtain ⟨x, _, hx⟩ := List.mem_flatMap.1 hu
  simp only [EN.v, List.mem_cons, List.not_mem_nil, or_false] at hx
  rcases hx with rfl | rfl | rfl <;> rfl
theorem own_lenEN {w : World} {b : Nat} {e : TypeId} {n : Nat} {v : Value} {L : List EN} (h : w.ownsRow b e 3 v n (L.flatMap EN.v)) : L.length = n := by
  have := h.1
  rw [flat_len _ 3 EN.len] at this
  omega
theorem iCopy_any (A : Option Addr) (n c : Nat) (l : List EN) (w : World) (hl : Row w A (l.flatMap EN.v)) (hn : l.length = n) (hx : n ≤ 1048577) (hA : A = none → c = 0) :
    Calls Try.prog 23 #[.slice A n c] w fun e w' => ∃ A' c', e = .returned (.slice A' n c') ∧ w'.ownsRow w.heap.size 31 3 (.slice A' n c') n (l.flatMap EN.v) ∧ Ext w w' := by
  subst hn
  go_enter Try.func23, Try.ntmps23
  go_wp2_with (at_builtin; refine wpList_pushS w rfl (.tmp 3) (.tmp 4) 24 rfl 31 Try.underlying24 info_EntryA rfl (by decide) _ 0 [] rfl _ (own_empty w _ _ rfl (Nat.le_refl _) _ _) (by repeat (first | exact Ext.refl _ | refine Ext.alloc ?_ _ | assumption | refine Ext.over ?_ _ | refine Ext.drew ?_ | refine Ext.drewN ?_ _)) (by repeat (first | exact Ext.refl _ | refine Ext.alloc ?_ _ | assumption | refine Ext.over ?_ _ | refine Ext.drew ?_ | refine Ext.drewN ?_ _)) A l.length c (l.flatMap EN.v) rfl hA (by rw [flat_len _ 3 EN.len]) (hl.ext (by repeat (first | exact Ext.refl _ | refine Ext.alloc ?_ _ | assumption | refine Ext.over ?_ _ | refine Ext.drew ?_ | refine Ext.drewN ?_ _))) en_one (by omega) (by decide) ?_)
  intro A' c' w' hown he
  have HO := hid hown
  clear hown
  go_wp2_with fail
  go_ret
  exact ⟨A', c', rfl, HO.out, he⟩
theorem sCopy_any (A : Option Addr) (n c : Nat) (l : List EN) (w : World) (hl : Row w A (l.flatMap EN.v)) (hn : l.length = n) (hx : n ≤ 1048577) (hA : A = none → c = 0) :
    Calls Try.prog 39 #[.slice A n c] w fun e w' => ∃ A' c', e = .returned (.slice A' n c') ∧ w'.ownsRow w.heap.size 31 3 (.slice A' n c') n (l.flatMap EN.v) ∧ Ext w w' := by
  subst hn
  go_enter Try.func39, Try.ntmps39
  go_wp2_with (at_builtin; refine wpList_pushS w rfl (.tmp 3) (.tmp 4) 24 rfl 31 Try.underlying24 info_EntryA rfl (by decide) _ 0 [] rfl _ (own_empty w _ _ rfl (Nat.le_refl _) _ _) (by repeat (first | exact Ext.refl _ | refine Ext.alloc ?_ _ | assumption | refine Ext.over ?_ _ | refine Ext.drew ?_ | refine Ext.drewN ?_ _)) (by repeat (first | exact Ext.refl _ | refine Ext.alloc ?_ _ | assumption | refine Ext.over ?_ _ | refine Ext.drew ?_ | refine Ext.drewN ?_ _)) A l.length c (l.flatMap EN.v) rfl hA (by rw [flat_len _ 3 EN.len]) (hl.ext (by repeat (first | exact Ext.refl _ | refine Ext.alloc ?_ _ | assumption | refine Ext.over ?_ _ | refine Ext.drew ?_ | refine Ext.drewN ?_ _))) en_one (by omega) (by decide) ?_)
  intro A' c' w' hown he
  have HO := hid hown
  clear hown
  go_wp2_with fail
  go_ret
  exact ⟨A', c', rfl, HO.out, he⟩
/-- What is appended, if anything. -/
def canApp (l : List EN) (m : Int) (t : ByteArray) : Bool := sealed l && !((l.length : Int) == 30) && !decide (sealOf (prevSeal l l.length) m t < 0) && !(decide (0 < l.length) && decide (m < (atEN l (l.length - 1)).a))
def appTo (l : List EN) (m : Int) (t : ByteArray) : List EN := if canApp l m t then l ++ [⟨m, t, sealOf (prevSeal l l.length) m t⟩] else l
theorem appTo_len (l : List EN) (m : Int) (t : ByteArray) : (appTo l m t).length ≤ l.length + 1 := by
  unfold appTo; split <;> simp
set_option maxHeartbeats 1600000 in
set_option maxRecDepth 100000 in
theorem iAppend_any (A : Option Addr) (n c : Nat) (l : List EN) (m : Int) (t : ByteArray) (w : World) (hl : Row w A (l.flatMap EN.v)) (hn : l.length = n) (hx : n ≤ 1048577) (hm : i64r m) (ht : t.size ≤ 9223372036854775807) (hok : ∀ x ∈ l, x.ok) (hA : A = none → c = 0) :
    Calls Try.prog 7 #[.slice A n c, .int .i64 m, .string t] w fun e w' => ∃ A' k c', e = .returned (.tuple #[.slice A' k c', .bool (canApp l m t)]) ∧ w'.ownsRow w.heap.size 31 3 (.slice A' k c') k ((appTo l m t).flatMap EN.v) ∧ Ext w w' := by
  subst hn
  go_enter Try.func7, Try.ntmps7
  go_wp2_with fail
  refine (iCopy_any A _ c l _ hl rfl hx hA).mono ?_
  rintro _ w1 ⟨A1, c1, rfl, o1, e1⟩
  have HO := hid o1
  have E1 := hid e1
  have hl1 := hl.ext e1
  clear o1 e1 hl
  have no : canApp l m t = false → appTo l m t = l := fun h => by unfold appTo; rw [h]; rfl
  have yes : canApp l m t = true → appTo l m t = l ++ [⟨m, t, sealOf (prevSeal l l.length) m t⟩] := fun h => by unfold appTo; rw [h]; rfl
  have HNO := hid no
  have HYES := hid yes
  clear no yes
  cases h1 : sealed l
  · have HC := hid (show canApp l m t = false by unfold canApp; rw [h1]; rfl)
    have HN := hid (HNO.out HC.out)
    go_wp2_with (first | (go_at_call 8; refine (iSealed_any _ _ _ l _ (hl1.ext (by repeat (first | exact Ext.refl _ | refine Ext.alloc ?_ _ | assumption | refine Ext.over ?_ _ | refine Ext.drew ?_ | refine Ext.drewN ?_ _))) rfl hx hok).over.mono ?_; rintro e w' ⟨rfl, xw, rfl⟩) | (go_at_call 10; refine (iLast_any _ _ _ l _ (hl1.ext (by repeat (first | exact Ext.refl _ | refine Ext.alloc ?_ _ | assumption | refine Ext.over ?_ _ | refine Ext.drew ?_ | refine Ext.drewN ?_ _))) rfl hx).over.mono ?_; rintro e w' ⟨rfl, xw, rfl⟩) | (go_at_call 24; refine (iSeal_any _ _ _ ht _).over.mono ?_; rintro e w' ⟨rfl, xw, rfl⟩))
    go_ret2
    rw [HN.out, HC.out]
    exact ⟨_, _, _, rfl, own_ext HO.out (by repeat (first | exact Ext.refl _ | refine Ext.alloc ?_ _ | assumption | refine Ext.over ?_ _ | refine Ext.drew ?_ | refine Ext.drewN ?_ _)), E1.out.trans (by repeat (first | exact Ext.refl _ | refine Ext.alloc ?_ _ | assumption | refine Ext.over ?_ _ | refine Ext.drew ?_ | refine Ext.drewN ?_ _))⟩
  cases h2 : ((l.length : Int) == 30)
  rotate_left
  · have HC := hid (show canApp l m t = false by unfold canApp; rw [h2]; simp)
    have HN := hid (HNO.out HC.out)
    go_wp2_with (first | (go_at_call 8; refine (iSealed_any _ _ _ l _ (hl1.ext (by repeat (first | exact Ext.refl _ | refine Ext.alloc ?_ _ | assumption | refine Ext.over ?_ _ | refine Ext.drew ?_ | refine Ext.drewN ?_ _))) rfl hx hok).over.mono ?_; rintro e w' ⟨rfl, xw, rfl⟩) | (go_at_call 10; refine (iLast_any _ _ _ l _ (hl1.ext (by repeat (first | exact Ext.refl _ | refine Ext.alloc ?_ _ | assumption | refine Ext.over ?_ _ | refine Ext.drew ?_ | refine Ext.drewN ?_ _))) rfl hx).over.mono ?_; rintro e w' ⟨rfl, xw, rfl⟩) | (go_at_call 24; refine (iSeal_any _ _ _ ht _).over.mono ?_; rintro e w' ⟨rfl, xw, rfl⟩))
    go_ret2
    rw [HN.out, HC.out]
    exact ⟨_, _, _, rfl, own_ext HO.out (by repeat (first | exact Ext.refl _ | refine Ext.alloc ?_ _ | assumption | refine Ext.over ?_ _ | refine Ext.drew ?_ | refine Ext.drewN ?_ _)), E1.out.trans (by repeat (first | exact Ext.refl _ | refine Ext.alloc ?_ _ | assumption | refine Ext.over ?_ _ | refine Ext.drew ?_ | refine Ext.drewN ?_ _))⟩
  cases h3 : decide (sealOf (prevSeal l l.length) m t < 0)
  rotate_left
  · have HC := hid (show canApp l m t = false by unfold canApp; rw [h3]; simp)
    have HN := hid (HNO.out HC.out)
    go_wp2_with (first | (go_at_call 8; refine (iSealed_any _ _ _ l _ (hl1.ext (by repeat (first | exact Ext.refl _ | refine Ext.alloc ?_ _ | assumption | refine Ext.over ?_ _ | refine Ext.drew ?_ | refine Ext.drewN ?_ _))) rfl hx hok).over.mono ?_; rintro e w' ⟨rfl, xw, rfl⟩) | (go_at_call 10; refine (iLast_any _ _ _ l _ (hl1.ext (by repeat (first | exact Ext.refl _ | refine Ext.alloc ?_ _ | assumption | refine Ext.over ?_ _ | refine Ext.drew ?_ | refine Ext.drewN ?_ _))) rfl hx).over.mono ?_; rintro e w' ⟨rfl, xw, rfl⟩) | (go_at_call 24; refine (iSeal_any _ _ _ ht _).over.mono ?_; rintro e w' ⟨rfl, xw, rfl⟩))
    go_ret2
    rw [HN.out, HC.out]
    exact ⟨_, _, _, rfl, own_ext HO.out (by repeat (first | exact Ext.refl _ | refine Ext.alloc ?_ _ | assumption | refine Ext.over ?_ _ | refine Ext.drew ?_ | refine Ext.drewN ?_ _)), E1.out.trans (by repeat (first | exact Ext.refl _ | refine Ext.alloc ?_ _ | assumption | refine Ext.over ?_ _ | refine Ext.drew ?_ | refine Ext.drewN ?_ _))⟩
  rcases Nat.eq_zero_or_pos l.length with h0 | h0
  · have h0' : decide (0 < l.length) = false := decide_eq_false (by omega)
    have HC := hid (show canApp l m t = true by unfold canApp; rw [h1, h2, h3, h0']; rfl)
    have HN := hid (HYES.out HC.out)
    have h0i : ¬ (0 < (l.length : Int)) := by omega
    have HZ := hid h0
    clear h0 h0'
    go_wp2_with (first | (go_at_call 8; refine (iSealed_any _ _ _ l _ (hl1.ext (by repeat (first | exact Ext.refl _ | refine Ext.alloc ?_ _ | assumption | refine Ext.over ?_ _ | refine Ext.drew ?_ | refine Ext.drewN ?_ _))) rfl hx hok).over.mono ?_; rintro e w' ⟨rfl, xw, rfl⟩) | (go_at_call 10; refine (iLast_any _ _ _ l _ (hl1.ext (by repeat (first | exact Ext.refl _ | refine Ext.alloc ?_ _ | assumption | refine Ext.over ?_ _ | refine Ext.drew ?_ | refine Ext.drewN ?_ _))) rfl hx).over.mono ?_; rintro e w' ⟨rfl, xw, rfl⟩) | (go_at_call 24; refine (iSeal_any _ _ _ ht _).over.mono ?_; rintro e w' ⟨rfl, xw, rfl⟩) | (at_builtin; refine wpList_push w rfl (.tmp 46) (.tmp 51) 24 rfl 31 Try.underlying24 info_EntryA rfl (by decide) _ l.length _ rfl w1 HO.out (by repeat (first | exact Ext.refl _ | refine Ext.alloc ?_ _ | assumption | refine Ext.over ?_ _ | refine Ext.drew ?_ | refine Ext.drewN ?_ _)) (E1.out.trans (by repeat (first | exact Ext.refl _ | refine Ext.alloc ?_ _ | assumption | refine Ext.over ?_ _ | refine Ext.drew ?_ | refine Ext.drewN ?_ _))) _ 1 1 [.int .i64 m, .string t, .int .i64 (sealOf (prevSeal l l.length) m t)] rfl rfl (lit_cells _ _ (by first | (simp; done) | simp [ovr_size]) _ _) (by intro u hu; simp at hu; rcases hu with rfl | rfl | rfl <;> rfl) (by omega) (by decide) ?_))
    intro A2 c2 w2 hown2 he2
    have HO2 := hid hown2
    clear hown2 HO
    go_wp2_with fail
    go_ret2
    rw [HN.out, HC.out]
    exact ⟨_, _, _, rfl, by simpa [EN.v] using HO2.out, he2⟩
  obtain ⟨b, off, hAe, hc⟩ := hl1.en (i := l.length - 1) (by omega)
  subst hAe
  obtain ⟨d1, d2, d3⟩ := hc (l.length - 1) (by omega)
  have h0' : decide (0 < l.length) = true := decide_eq_true h0
  clear hc
  cases h4 : decide (m < (atEN l (l.length - 1)).a)
  rotate_left
  · have HC := hid (show canApp l m t = false by unfold canApp; rw [h0', h4]; simp)
    have HN := hid (HNO.out HC.out)
    go_wp2_with (first | (go_at_call 8; refine (iSealed_any _ _ _ l _ (hl1.ext (by repeat (first | exact Ext.refl _ | refine Ext.alloc ?_ _ | assumption | refine Ext.over ?_ _ | refine Ext.drew ?_ | refine Ext.drewN ?_ _))) rfl hx hok).over.mono ?_; rintro e w' ⟨rfl, xw, rfl⟩) | (go_at_call 10; refine (iLast_any _ _ _ l _ (hl1.ext (by repeat (first | exact Ext.refl _ | refine Ext.alloc ?_ _ | assumption | refine Ext.over ?_ _ | refine Ext.drew ?_ | refine Ext.drewN ?_ _))) rfl hx).over.mono ?_; rintro e w' ⟨rfl, xw, rfl⟩) | (go_at_call 24; refine (iSeal_any _ _ _ ht _).over.mono ?_; rintro e w' ⟨rfl, xw, rfl⟩))
    go_ret2
    rw [HN.out, HC.out]
    exact ⟨_, _, _, rfl, own_ext HO.out (by repeat (first | exact Ext.refl _ | refine Ext.alloc ?_ _ | assumption | refine Ext.over ?_ _ | refine Ext.drew ?_ | refine Ext.drewN ?_ _)), E1.out.trans (by repeat (first | exact Ext.refl _ | refine Ext.alloc ?_ _ | assumption | refine Ext.over ?_ _ | refine Ext.drew ?_ | refine Ext.drewN ?_ _))⟩
  · have HC := hid (show canApp l m t = true by unfold canApp; rw [h1, h2, h3, h4]; simp)
    have HN := hid (HYES.out HC.out)
    go_wp2_with (first | (go_at_call 8; refine (iSealed_any _ _ _ l _ (hl1.ext (by repeat (first | exact Ext.refl _ | refine Ext.alloc ?_ _ | assumption | refine Ext.over ?_ _ | refine Ext.drew ?_ | refine Ext.drewN ?_ _))) rfl hx hok).over.mono ?_; rintro e w' ⟨rfl, xw, rfl⟩) | (go_at_call 10; refine (iLast_any _ _ _ l _ (hl1.ext (by repeat (first | exact Ext.refl _ | refine Ext.alloc ?_ _ | assumption | refine Ext.over ?_ _ | refine Ext.drew ?_ | refine Ext.drewN ?_ _))) rfl hx).over.mono ?_; rintro e w' ⟨rfl, xw, rfl⟩) | (go_at_call 24; refine (iSeal_any _ _ _ ht _).over.mono ?_; rintro e w' ⟨rfl, xw, rfl⟩) | (at_builtin; refine wpList_push w rfl (.tmp 46) (.tmp 51) 24 rfl 31 Try.underlying24 info_EntryA rfl (by decide) _ l.length _ rfl w1 HO.out (by repeat (first | exact Ext.refl _ | refine Ext.alloc ?_ _ | assumption | refine Ext.over ?_ _ | refine Ext.drew ?_ | refine Ext.drewN ?_ _)) (E1.out.trans (by repeat (first | exact Ext.refl _ | refine Ext.alloc ?_ _ | assumption | refine Ext.over ?_ _ | refine Ext.drew ?_ | refine Ext.drewN ?_ _))) _ 1 1 [.int .i64 m, .string t, .int .i64 (sealOf (prevSeal l l.length) m t)] rfl rfl (lit_cells _ _ (by first | (simp; done) | simp [ovr_size]) _ _) (by intro u hu; simp at hu; rcases hu with rfl | rfl | rfl <;> rfl) (by omega) (by decide) ?_))
    intro A2 c2 w2 hown2 he2
    have HO2 := hid hown2
    clear hown2 HO
    go_wp2_with fail
    go_ret2
    rw [HN.out, HC.out]
    exact ⟨_, _, _, rfl, by simpa [EN.v] using HO2.out, he2⟩
set_option maxHeartbeats 1600000 in
set_option maxRecDepth 100000 in
theorem sAppend_any (A : Option Addr) (n c : Nat) (l : List EN) (m : Int) (t : ByteArray) (w : World) (hl : Row w A (l.flatMap EN.v)) (hn : l.length = n) (hx : n ≤ 1048577) (hm : i64r m) (ht : t.size ≤ 9223372036854775807) (hok : ∀ x ∈ l, x.ok) (hA : A = none → c = 0) :
    Calls Try.prog 32 #[.slice A n c, .int .i64 m, .string t] w fun e w' => ∃ A' k c', e = .returned (.tuple #[.slice A' k c', .bool (canApp l m t)]) ∧ w'.ownsRow w.heap.size 31 3 (.slice A' k c') k ((appTo l m t).flatMap EN.v) ∧ Ext w w' := by
  subst hn
  go_enter Try.func32, Try.ntmps32
  go_wp2_with fail
  refine (sCopy_any A _ c l _ hl rfl hx hA).mono ?_
  rintro _ w1 ⟨A1, c1, rfl, o1, e1⟩
  have HO := hid o1
  have E1 := hid e1
  have hl1 := hl.ext e1
  clear o1 e1 hl
  have no : canApp l m t = false → appTo l m t = l := fun h => by unfold appTo; rw [h]; rfl
  have yes : canApp l m t = true → appTo l m t = l ++ [⟨m, t, sealOf (prevSeal l l.length) m t⟩] := fun h => by unfold appTo; rw [h]; rfl
  have HNO := hid no
  have HYES := hid yes
  clear no yes
  cases h1 : sealed l
  · have HC := hid (show canApp l m t = false by unfold canApp; rw [h1]; rfl)
    have HN := hid (HNO.out HC.out)
    go_wp2_with (first | (go_at_call 41; refine (sSealed_any _ _ _ l _ (hl1.ext (by repeat (first | exact Ext.refl _ | refine Ext.alloc ?_ _ | assumption | refine Ext.over ?_ _ | refine Ext.drew ?_ | refine Ext.drewN ?_ _))) rfl hx hok).over.mono ?_; rintro e w' ⟨rfl, xw, rfl⟩) | (go_at_call 11; refine (sLast_any _ _ _ l _ (hl1.ext (by repeat (first | exact Ext.refl _ | refine Ext.alloc ?_ _ | assumption | refine Ext.over ?_ _ | refine Ext.drew ?_ | refine Ext.drewN ?_ _))) rfl hx).over.mono ?_; rintro e w' ⟨rfl, xw, rfl⟩) | (go_at_call 40; refine (sSeal_any _ _ _ ht _).over.mono ?_; rintro e w' ⟨rfl, xw, rfl⟩))
    go_ret2
    rw [HN.out, HC.out]
    exact ⟨_, _, _, rfl, own_ext HO.out (by repeat (first | exact Ext.refl _ | refine Ext.alloc ?_ _ | assumption | refine Ext.over ?_ _ | refine Ext.drew ?_ | refine Ext.drewN ?_ _)), E1.out.trans (by repeat (first | exact Ext.refl _ | refine Ext.alloc ?_ _ | assumption | refine Ext.over ?_ _ | refine Ext.drew ?_ | refine Ext.drewN ?_ _))⟩
  cases h2 : ((l.length : Int) == 30)
  rotate_left
  · have HC := hid (show canApp l m t = false by unfold canApp; rw [h2]; simp)
    have HN := hid (HNO.out HC.out)
    go_wp2_with (first | (go_at_call 41; refine (sSealed_any _ _ _ l _ (hl1.ext (by repeat (first | exact Ext.refl _ | refine Ext.alloc ?_ _ | assumption | refine Ext.over ?_ _ | refine Ext.drew ?_ | refine Ext.drewN ?_ _))) rfl hx hok).over.mono ?_; rintro e w' ⟨rfl, xw, rfl⟩) | (go_at_call 11; refine (sLast_any _ _ _ l _ (hl1.ext (by repeat (first | exact Ext.refl _ | refine Ext.alloc ?_ _ | assumption | refine Ext.over ?_ _ | refine Ext.drew ?_ | refine Ext.drewN ?_ _))) rfl hx).over.mono ?_; rintro e w' ⟨rfl, xw, rfl⟩) | (go_at_call 40; refine (sSeal_any _ _ _ ht _).over.mono ?_; rintro e w' ⟨rfl, xw, rfl⟩))
    go_ret2
    rw [HN.out, HC.out]
    exact ⟨_, _, _, rfl, own_ext HO.out (by repeat (first | exact Ext.refl _ | refine Ext.alloc ?_ _ | assumption | refine Ext.over ?_ _ | refine Ext.drew ?_ | refine Ext.drewN ?_ _)), E1.out.trans (by repeat (first | exact Ext.refl _ | refine Ext.alloc ?_ _ | assumption | refine Ext.over ?_ _ | refine Ext.drew ?_ | refine Ext.drewN ?_ _))⟩
  cases h3 : decide (sealOf (prevSeal l l.length) m t < 0)
  rotate_left
  · have HC := hid (show canApp l m t = false by unfold canApp; rw [h3]; simp)
    have HN := hid (HNO.out HC.out)
    go_wp2_with (first | (go_at_call 41; refine (sSealed_any _ _ _ l _ (hl1.ext (by repeat (first | exact Ext.refl _ | refine Ext.alloc ?_ _ | assumption | refine Ext.over ?_ _ | refine Ext.drew ?_ | refine Ext.drewN ?_ _))) rfl hx hok).over.mono ?_; rintro e w' ⟨rfl, xw, rfl⟩) | (go_at_call 11; refine (sLast_any _ _ _ l _ (hl1.ext (by repeat (first | exact Ext.refl _ | refine Ext.alloc ?_ _ | assumption | refine Ext.over ?_ _ | refine Ext.drew ?_ | refine Ext.drewN ?_ _))) rfl hx).over.mono ?_; rintro e w' ⟨rfl, xw, rfl⟩) | (go_at_call 40; refine (sSeal_any _ _ _ ht _).over.mono ?_; rintro e w' ⟨rfl, xw, rfl⟩))
    go_ret2
    rw [HN.out, HC.out]
    exact ⟨_, _, _, rfl, own_ext HO.out (by repeat (first | exact Ext.refl _ | refine Ext.alloc ?_ _ | assumption | refine Ext.over ?_ _ | refine Ext.drew ?_ | refine Ext.drewN ?_ _)), E1.out.trans (by repeat (first | exact Ext.refl _ | refine Ext.alloc ?_ _ | assumption | refine Ext.over ?_ _ | refine Ext.drew ?_ | refine Ext.drewN ?_ _))⟩
  rcases Nat.eq_zero_or_pos l.length with h0 | h0
  · have h0' : decide (0 < l.length) = false := decide_eq_false (by omega)
    have HC := hid (show canApp l m t = true by unfold canApp; rw [h1, h2, h3, h0']; rfl)
    have HN := hid (HYES.out HC.out)
    have h0i : ¬ (0 < (l.length : Int)) := by omega
    have HZ := hid h0
    clear h0 h0'
    go_wp2_with (first | (go_at_call 41; refine (sSealed_any _ _ _ l _ (hl1.ext (by repeat (first | exact Ext.refl _ | refine Ext.alloc ?_ _ | assumption | refine Ext.over ?_ _ | refine Ext.drew ?_ | refine Ext.drewN ?_ _))) rfl hx hok).over.mono ?_; rintro e w' ⟨rfl, xw, rfl⟩) | (go_at_call 11; refine (sLast_any _ _ _ l _ (hl1.ext (by repeat (first | exact Ext.refl _ | refine Ext.alloc ?_ _ | assumption | refine Ext.over ?_ _ | refine Ext.drew ?_ | refine Ext.drewN ?_ _))) rfl hx).over.mono ?_; rintro e w' ⟨rfl, xw, rfl⟩) | (go_at_call 40; refine (sSeal_any _ _ _ ht _).over.mono ?_; rintro e w' ⟨rfl, xw, rfl⟩) | (at_builtin; refine wpList_push w rfl (.tmp 46) (.tmp 51) 24 rfl 31 Try.underlying24 info_EntryA rfl (by decide) _ l.length _ rfl w1 HO.out (by repeat (first | exact Ext.refl _ | refine Ext.alloc ?_ _ | assumption | refine Ext.over ?_ _ | refine Ext.drew ?_ | refine Ext.drewN ?_ _)) (E1.out.trans (by repeat (first | exact Ext.refl _ | refine Ext.alloc ?_ _ | assumption | refine Ext.over ?_ _ | refine Ext.drew ?_ | refine Ext.drewN ?_ _))) _ 1 1 [.int .i64 m, .string t, .int .i64 (sealOf (prevSeal l l.length) m t)] rfl rfl (lit_cells _ _ (by first | (simp; done) | simp [ovr_size]) _ _) (by intro u hu; simp at hu; rcases hu with rfl | rfl | rfl <;> rfl) (by omega) (by decide) ?_))
    intro A2 c2 w2 hown2 he2
    have HO2 := hid hown2
    clear hown2 HO
    go_wp2_with fail
    go_ret2
    rw [HN.out, HC.out]
    exact ⟨_, _, _, rfl, by simpa [EN.v] using HO2.out, he2⟩
  obtain ⟨b, off, hAe, hc⟩ := hl1.en (i := l.length - 1) (by omega)
  subst hAe
  obtain ⟨d1, d2, d3⟩ := hc (l.length - 1) (by omega)
  have h0' : decide (0 < l.length) = true := decide_eq_true h0
  clear hc
  cases h4 : decide (m < (atEN l (l.length - 1)).a)
  rotate_left
  · have HC := hid (show canApp l m t = false by unfold canApp; rw [h0', h4]; simp)
    have HN := hid (HNO.out HC.out)
    go_wp2_with (first | (go_at_call 41; refine (sSealed_any _ _ _ l _ (hl1.ext (by repeat (first | exact Ext.refl _ | refine Ext.alloc ?_ _ | assumption | refine Ext.over ?_ _ | refine Ext.drew ?_ | refine Ext.drewN ?_ _))) rfl hx hok).over.mono ?_; rintro e w' ⟨rfl, xw, rfl⟩) | (go_at_call 11; refine (sLast_any _ _ _ l _ (hl1.ext (by repeat (first | exact Ext.refl _ | refine Ext.alloc ?_ _ | assumption | refine Ext.over ?_ _ | refine Ext.drew ?_ | refine Ext.drewN ?_ _))) rfl hx).over.mono ?_; rintro e w' ⟨rfl, xw, rfl⟩) | (go_at_call 40; refine (sSeal_any _ _ _ ht _).over.mono ?_; rintro e w' ⟨rfl, xw, rfl⟩))
    go_ret2
    rw [HN.out, HC.out]
    exact ⟨_, _, _, rfl, own_ext HO.out (by repeat (first | exact Ext.refl _ | refine Ext.alloc ?_ _ | assumption | refine Ext.over ?_ _ | refine Ext.drew ?_ | refine Ext.drewN ?_ _)), E1.out.trans (by repeat (first | exact Ext.refl _ | refine Ext.alloc ?_ _ | assumption | refine Ext.over ?_ _ | refine Ext.drew ?_ | refine Ext.drewN ?_ _))⟩
  · have HC := hid (show canApp l m t = true by unfold canApp; rw [h1, h2, h3, h4]; simp)
    have HN := hid (HYES.out HC.out)
    go_wp2_with (first | (go_at_call 41; refine (sSealed_any _ _ _ l _ (hl1.ext (by repeat (first | exact Ext.refl _ | refine Ext.alloc ?_ _ | assumption | refine Ext.over ?_ _ | refine Ext.drew ?_ | refine Ext.drewN ?_ _))) rfl hx hok).over.mono ?_; rintro e w' ⟨rfl, xw, rfl⟩) | (go_at_call 11; refine (sLast_any _ _ _ l _ (hl1.ext (by repeat (first | exact Ext.refl _ | refine Ext.alloc ?_ _ | assumption | refine Ext.over ?_ _ | refine Ext.drew ?_ | refine Ext.drewN ?_ _))) rfl hx).over.mono ?_; rintro e w' ⟨rfl, xw, rfl⟩) | (go_at_call 40; refine (sSeal_any _ _ _ ht _).over.mono ?_; rintro e w' ⟨rfl, xw, rfl⟩) | (at_builtin; refine wpList_push w rfl (.tmp 46) (.tmp 51) 24 rfl 31 Try.underlying24 info_EntryA rfl (by decide) _ l.length _ rfl w1 HO.out (by repeat (first | exact Ext.refl _ | refine Ext.alloc ?_ _ | assumption | refine Ext.over ?_ _ | refine Ext.drew ?_ | refine Ext.drewN ?_ _)) (E1.out.trans (by repeat (first | exact Ext.refl _ | refine Ext.alloc ?_ _ | assumption | refine Ext.over ?_ _ | refine Ext.drew ?_ | refine Ext.drewN ?_ _))) _ 1 1 [.int .i64 m, .string t, .int .i64 (sealOf (prevSeal l l.length) m t)] rfl rfl (lit_cells _ _ (by first | (simp; done) | simp [ovr_size]) _ _) (by intro u hu; simp at hu; rcases hu with rfl | rfl | rfl <;> rfl) (by omega) (by decide) ?_))
    intro A2 c2 w2 hown2 he2
    have HO2 := hid hown2
    clear hown2 HO
    go_wp2_with fail
    go_ret2
    rw [HN.out, HC.out]
    exact ⟨_, _, _, rfl, by simpa [EN.v] using HO2.out, he2⟩
end Go.Proofs.Ytmnpipbchcjgnaa
