/- Walks: GuardsFor of the reference. Conditions: sizes. -/
import Derived.Test.YtnkdafdafgjicaaForI
import Derived.Test.YtnkdafdafgjicaaBorder
namespace Go.Proofs.Ytnkdafdafgjicaa
open Go.RowKit
set_option linter.unusedVariables false

theorem gaL_set {l : List T2} {h : Nat} {o : List Int} {k : Nat} (hk : k ≤ o.length) (h0 : ∀ j, j < k → 0 ≤ atI o j) : gaL (setTo o k).testBit l h = gaL (memN (o.take k)) l h :=
  gaL_congr fun j _ => setTo_mem hk h0 j
set_option maxRecDepth 100000 in
set_option maxHeartbeats 1600000 in
theorem sFor_any (h : Int) (A : Option Addr) (n c : Nat) (l : List T2) (B : Option Addr) (m d : Nat) (s : List Int) (w : World) (hl : Row w A (l.flatMap T2.v)) (hn : l.length = n) (hx : n ≤ 1048577) (hs : Row w B (s.map (Value.int .i64))) (hm : s.length = m) (hy : m ≤ 1048577) (hcap : m ≤ d) :
    Gives Try.prog 23 #[.agg #[.int .i64 h, .slice A n c], .slice B m d] w (.int .i64 (forOf h l s)) := by
  subst hn hm
  cases ho : orderOk h l s
  · have HB := hid (forOf_no ho)
    (unfold Gives; go_enter Try.func23, Try.ntmps23)
    go_wp2_with (go_at_call 50; refine (gives_b ho (sOrderOk_any _ _ _ _ l _ _ _ s _ (hl.ext (by repeat (first | exact Ext.refl _ | refine Ext.alloc ?_ _ | assumption | refine Ext.over ?_ _ | refine Ext.drew ?_ | refine Ext.drewN ?_ _))) rfl hx (hs.ext (by repeat (first | exact Ext.refl _ | refine Ext.alloc ?_ _ | assumption | refine Ext.over ?_ _ | refine Ext.drew ?_ | refine Ext.drewN ?_ _))) rfl hy hcap)).over.mono ?_; rintro e w' ⟨rfl, xw, rfl⟩)
    go_ret
    exact ⟨by rw [HB.out]; rfl, by repeat (first | exact Ext.refl _ | refine Ext.alloc ?_ _ | assumption | refine Ext.over ?_ _ | refine Ext.drew ?_ | refine Ext.drewN ?_ _)⟩
  have HB := hid (forOf_yes ho)
  obtain ⟨hk, hlen, hin⟩ := orderOk_house ho
  obtain ⟨hd, h1, h7, h12⟩ := houseOk_bounds hk
  have HO := hid ho
  clear hd hk ho
  obtain ⟨h, rfl⟩ : ∃ k : Nat, h = k := ⟨h.toNat, by omega⟩
  have hlen' : s.length ≤ 7 := by omega
  have HN := hid (show ∀ j, j < s.length → 0 ≤ atI s j ∧ atI s j < 7 from fun j hj => by
    have := hin j hj
    unfold ordAt at this
    have := btw_iff.1 (Bool.and_eq_true_iff.1 this).1
    omega)
  clear hlen hin
  (unfold Gives; go_enter Try.func23, Try.ntmps23)
  go_wp2_with (go_at_call 50; refine (gives_b HO.out (sOrderOk_any _ _ _ _ l _ _ _ s _ (hl.ext (by repeat (first | exact Ext.refl _ | refine Ext.alloc ?_ _ | assumption | refine Ext.over ?_ _ | refine Ext.drew ?_ | refine Ext.drewN ?_ _))) rfl hx (hs.ext (by repeat (first | exact Ext.refl _ | refine Ext.alloc ?_ _ | assumption | refine Ext.over ?_ _ | refine Ext.drew ?_ | refine Ext.drewN ?_ _))) rfl hy hcap)).over.mono ?_; rintro e w' ⟨rfl, xw, rfl⟩)
  go_loopw [5, 6, 7] (fun sv nv iv wr => ∃ (k : Nat), k ≤ s.length ∧ iv = .int .i64 ↑k ∧ sv = .int .i64 (setTo s k) ∧ nv = .int .i64 (forTo l h s k) ∧ Ext w wr ∧ wr.cell? ⟨w.heap.size, 0, none⟩ = some (.int .i64 h) ∧ wr.cell? ⟨w.heap.size, 1, none⟩ = some (.slice A l.length c)) (fun _ _ iv _ => (s.length - (intOf iv).toNat))
  case atStart => exact ⟨0, by omega, rfl, rfl, rfl, by repeat (first | exact Ext.refl _ | refine Ext.alloc ?_ _ | assumption | refine Ext.over ?_ _ | refine Ext.drew ?_ | refine Ext.drewN ?_ _), by go_simp, by go_simp⟩
  case round =>
    obtain ⟨k, hkn, rfl, rfl, rfl, he, b0, b1⟩ := hrel
    have HE := hid he
    have HL := hid (hl.ext he)
    have hO := hs.ext he
    have hfb := forTo_bound l h s k
    have hsb := setTo_lt hkn (fun j hj => HN.out j (by omega))
    have HG := hid (gaL_set (l := l) (h := h) hkn (fun j hj => (HN.out j (by omega)).1))
    have hgl := gaL_len (setTo s k).testBit l h
    obtain ⟨q, hq⟩ : ∃ q, q = forTo l h s k := ⟨_, rfl⟩
    obtain ⟨S, hS⟩ : ∃ S, S = setTo s k := ⟨_, rfl⟩
    rw [← hq] at hfb ⊢
    rw [← hS] at hsb hgl HG ⊢
    have HQ := hid hq
    have HS := hid hS
    obtain ⟨g, hg⟩ : ∃ g : Int, g = (gaL S.testBit l h).length := ⟨_, rfl⟩
    have HGG := hid hg.symm
    have hg0 : 0 ≤ g ∧ g ≤ 7 := by omega
    clear hq hS hgl hg
    by_cases hlt : k < s.length
    · obtain ⟨ob, off, rfl, hc⟩ := hO.ints hlt
      have c1 := hc k hlt
      have hr := HN.out k hlt
      obtain ⟨x, hxv⟩ : ∃ x : Nat, x = (atI s k).toNat := ⟨_, rfl⟩
      have hxx : atI s k = x := by omega
      have hx7 : x < 7 := by omega
      obtain ⟨hor, hor'⟩ := or_bit hsb hx7
      have HX := hid hxv
      rw [hxx] at c1
      clear hc he hs hl hO hxv hxx hr
      have HV := hid (show max q (g + 1) = forTo l h s (k + 1) by
        show _ = max (forTo l h s k) (fTo l h s k)
        unfold fTo
        rw [← HQ.out, ← HG.out, HGG.out])
      have HW := hid (show S ||| 2 ^ x = setTo s (k + 1) by
        show _ = setTo s k ||| 2 ^ (atI s k).toNat
        rw [HS.out, HX.out])
      rcases Int.lt_or_le q (g + 1) with hqg | hqg
      all_goals
        go_wp2_with (go_at_call 51; refine (gives_v HGG.out (border_any h _ _ _ l S _ (HL.out.ext (by repeat (first | exact Ext.refl _ | refine Ext.alloc ?_ _ | assumption | refine Ext.over ?_ _ | refine Ext.drew ?_ | refine Ext.drewN ?_ _))) rfl (by omega) (by omega) hsb)).over.mono ?_; rintro e w' ⟨rfl, xw, rfl⟩)
        go_roundw
        case rel => exact ⟨k + 1, by omega, by go_num, by rw [← HW.out], by rw [← HV.out]; first | rfl | (congr 1; omega), HE.out.trans (by repeat (first | exact Ext.refl _ | refine Ext.alloc ?_ _ | assumption | refine Ext.over ?_ _ | refine Ext.drew ?_ | refine Ext.drewN ?_ _)), by go_simp, by go_simp⟩
        case measure => simp [intOf]; omega
    · obtain rfl : k = s.length := by omega
      go_wp2_with fail
      go_ret
      exact ⟨by rw [HB.out, Int.toNat_natCast, ← HQ.out]; rfl, HE.out⟩
end Go.Proofs.Ytnkdafdafgjicaa
