/- Walks: extend and the reference's l28Match: they compute Match.ext. Conditions: sizes. -/
import Derived.Test.YtnjmhdlcmbpfpaaApart
import Derived.Test.YtnjmhdlcmbpfpaaPush
import Derived.Test.YtnjmhdlcmbpfpaaMatch
import Derived.Deep.Cut
namespace Go.Proofs.Ytnjmhdlcmbpfpaa
open Go.RowKit

theorem own_int {w : World} {base : Nat} {e : TypeId} {g n cap : Nat} {l : List Int} (h : w.ownsRow base e 1 (.slice (some ⟨g, 0, none⟩) n cap) n (l.map (Value.int .i64))) {j : Nat} (hj : j < n) :
    w.cell? ⟨g, j, none⟩ = some (.int .i64 (l.getD j 0)) ∧ w.frozen? ⟨g, j, none⟩ = false := by
  have hl : l.length = n := by simpa using h.1
  refine ⟨?_, h.frozenAt j⟩
  rw [h.cellAt j (by omega)]
  simp [List.getD, hl, hj]
theorem own_bool {w : World} {base : Nat} {e : TypeId} {g n cap : Nat} {l : List Bool} (h : w.ownsRow base e 1 (.slice (some ⟨g, 0, none⟩) n cap) n (l.map Value.bool)) {j : Nat} (hj : j < n) :
    w.cell? ⟨g, j, none⟩ = some (.bool (l.getD j true)) ∧ w.frozen? ⟨g, j, none⟩ = false := by
  have hl : l.length = n := by simpa using h.1
  refine ⟨?_, h.frozenAt j⟩
  rw [h.cellAt j (by omega)]
  simp [List.getD, hl, hj]
/-- Two rows of the call's own: the pairs and what was tried. -/
structure Two (wa w : World) (g h n cB cT : Nat) (b : List Int) (t : List Bool) : Prop where
  ints : w.ownsRow wa.heap.size 3 1 (.slice (some ⟨g, 0, none⟩) n cB) n (b.map (Value.int .i64))
  bools : w.ownsRow wa.heap.size 4 1 (.slice (some ⟨h, 0, none⟩) n cT) n (t.map Value.bool)
  ne : g ≠ h
  ext : Ext wa w
namespace Two
variable {wa w : World} {g h n cB cT : Nat} {b : List Int} {t : List Bool}
theorem lenB (H : Two wa w g h n cB cT b t) : b.length = n := by simpa using H.ints.1
theorem lenT (H : Two wa w g h n cB cT b t) : t.length = n := by simpa using H.bools.1
theorem over (H : Two wa w g h n cB cT b t) {w' : World} (he : Ext w w') : Two wa w' g h n cB cT b t := ⟨own_ext H.ints he, own_ext H.bools he, H.ne, H.ext.trans he⟩
theorem setB (H : Two wa w g h n cB cT b t) (k : Nat) (x : Int) : Two wa (w.setCell ⟨g, k, none⟩ (.int .i64 x)) g h n cB cT (b.set k x) t := by
  obtain ⟨h1, h2⟩ := H.ints.stored k (.int .i64 x)
  refine ⟨by rw [List.map_set]; exact h1, H.bools.kept h2 (.inr ?_), H.ne, grown_ext (v := .slice (some ⟨g, 0, none⟩) n cB) H.ext H.ints (Nat.le_refl _) h2⟩
  intro e
  injection e with e
  exact H.ne e.symm
theorem setT (H : Two wa w g h n cB cT b t) (k : Nat) (x : Bool) : Two wa (w.setCell ⟨h, k, none⟩ (.bool x)) g h n cB cT b (t.set k x) := by
  obtain ⟨h1, h2⟩ := H.bools.stored k (.bool x)
  refine ⟨H.ints.kept h2 (.inr ?_), by rw [List.map_set]; exact h1, H.ne, grown_ext (v := .slice (some ⟨h, 0, none⟩) n cT) H.ext H.bools (Nat.le_refl _) h2⟩
  intro e
  injection e with e
  exact H.ne e
end Two

section
variable {c : Nat → Nat → Bool} {rec : Nat → Match.St → Bool × Match.St} {i k : Nat} {ks : List Nat} {b : List Int} {t : List Bool}
theorem loop_skip (h : (t.getD k true || !c i k) = true) : Match.loop c rec i (k :: ks) (b, t) = Match.loop c rec i ks (b, t) := by rw [Match.loop, if_pos h]
theorem loop_free (h : (t.getD k true || !c i k) = false) (hb : b.getD k 0 < 0) : Match.loop c rec i (k :: ks) (b, t) = (true, (b.set k i, t.set k true)) := by
  rw [Match.loop, if_neg (by rw [h]; simp), if_pos hb]
theorem loop_take (h : (t.getD k true || !c i k) = false) (hb : ¬ b.getD k 0 < 0) (hr : (rec (b.getD k 0).toNat (b, t.set k true)).1 = true) :
    Match.loop c rec i (k :: ks) (b, t) = (true, ((rec (b.getD k 0).toNat (b, t.set k true)).2.1.set k i, (rec (b.getD k 0).toNat (b, t.set k true)).2.2)) := by
  rw [Match.loop, if_neg (by rw [h]; simp), if_neg hb, if_pos hr]
theorem loop_on (h : (t.getD k true || !c i k) = false) (hb : ¬ b.getD k 0 < 0) (hr : (rec (b.getD k 0).toNat (b, t.set k true)).1 = false) :
    Match.loop c rec i (k :: ks) (b, t) = Match.loop c rec i ks (rec (b.getD k 0).toNat (b, t.set k true)).2 := by
  rw [Match.loop, if_neg (by rw [h]; simp), if_neg hb, if_neg (by rw [hr]; simp)]
theorem range'_cons {k n : Nat} (h : k < n) : List.range' k (n - k) = k :: List.range' (k + 1) (n - (k + 1)) := by
  rw [show n - k = (n - (k + 1)) + 1 by omega, List.range'_succ]
end
theorem iCanBe_of {a x y a' x' y' s : Int} {b : Bool} (h : canBe a x y a' x' y' s = b) (w : World) : Gives Try.prog 13 #[.agg #[.int .i64 a, .int .i64 x, .int .i64 y], .agg #[.int .i64 a', .int .i64 x', .int .i64 y'], .int .i64 s] w (.bool b) := h ▸ iCanBeSame_any a x y a' x' y' s w
set_option maxHeartbeats 1600000 in
theorem iExtend_any (wa : World) (A : Option Addr) (n c : Nat) (l : List T3) (s : Int) (hl : Row wa A (l.flatMap T3.v)) (hn : l.length = n) (hx : n ≤ 8) (g h cB cT : Nat) : ∀ (f i : Nat) (b : List Int) (t : List Bool) (w : World), i < n → Two wa w g h n cB cT b t → (∀ k, k < n → b.getD k 0 < n) → Match.left t < f →
    Calls Try.prog 26 #[.slice A n c, .int .i64 s, .int .i64 i, .slice (some ⟨g, 0, none⟩) n cB, .slice (some ⟨h, 0, none⟩) n cT] w fun e w' =>
      e = .returned (.bool (Match.ext (cb l s) n f i (b, t)).1) ∧ Two wa w' g h n cB cT (Match.ext (cb l s) n f i (b, t)).2.1 (Match.ext (cb l s) n f i (b, t)).2.2 := by
  intro f
  induction f with
  | zero => intro _ _ _ _ _ _ _ hf; omega
  | succ f ih =>
    intro i b t w hi hT hb hf
    have IH := hid ih
    clear ih
    have HR := hid (show Match.ext (cb l s) n (f + 1) i (b, t) = Match.loop (cb l s) (Match.ext (cb l s) n f) i (List.range' 0 (n - 0)) (b, t) by rw [Match.ext, List.range_eq_range']; rfl)
    generalize Match.ext (cb l s) n (f + 1) i (b, t) = R at HR
    have HT := hid hT
    have HB := hid hb
    clear hT hb
    subst hn
    go_enter Try.func26, Try.ntmps26
    go_wp2_with fail
    go_loopw [14] (fun ix wr => ∃ (k : Nat) (b' : List Int) (t' : List Bool), k ≤ l.length ∧ ix = .int .i64 ↑k ∧ Two wa wr g h l.length cB cT b' t' ∧ (∀ k, k < l.length → b'.getD k 0 < l.length) ∧ Match.left t' < f + 1 ∧ R = Match.loop (cb l s) (Match.ext (cb l s) l.length f) i (List.range' k (l.length - k)) (b', t')) (fun ix _ => l.length - (intOf ix).toNat)
    case atStart => exact ⟨0, b, t, by omega, rfl, HT.out, HB.out, hf, HR.out⟩
    case round =>
      clear HT HB HR hf
      obtain ⟨k, b, t, hk, rfl, hT, hb, hf, hR⟩ := hrel
      have HT := hid hT
      have HB := hid hb
      have HR := hid hR
      clear hT hb hR
      by_cases hlt : k < l.length
      · obtain ⟨lb, off, rfl, hc⟩ := (hl.ext HT.out.ext).t3 hlt
        obtain ⟨c1, c2, c3⟩ := hc k hlt
        obtain ⟨d1, d2, d3⟩ := hc i hi
        clear hc
        obtain ⟨t1, -⟩ := own_bool HT.out.bools hlt
        cases ht : t.getD k true
        · rw [ht] at t1
          cases hcb : canBe (at3 l i).a (at3 l i).b (at3 l i).c (at3 l k).a (at3 l k).b (at3 l k).c s
          · have HS := hid (HR.out.trans (by rw [range'_cons hlt, loop_skip (show (t.getD k true || !cb l s i k) = true by rw [ht, cb, hcb]; rfl)]))
            clear HR
            go_wp2_with fail
            (refine wp_region_calm (by kernel_rfl) (by kernel_rfl) ?_; (repeat (go_big_quiet_step ((go_at_call 13; exact (iCanBe_of (by assumption) _).calm)))); refine wpQuiet_nil ?_; rintro w1 ⟨x1, rfl⟩)
            go_wp2_with fail
            go_roundw
            case rel => exact ⟨k + 1, b, t, by omega, by go_num, HT.out.over (by repeat (first | exact Ext.refl _ | refine Ext.alloc ?_ _ | assumption | refine Ext.over ?_ _ | refine Ext.drew ?_ | refine Ext.drewN ?_ _)), HB.out, hf, HS.out⟩
            case measure => simp [intOf]; omega
          · have hU : (t.getD k true || !cb l s i k) = false := by rw [ht, cb, hcb]; rfl
            rw [range'_cons hlt] at HR
            go_wp2_with fail
            (refine wp_region_calm (by kernel_rfl) (by kernel_rfl) ?_; (repeat (go_big_quiet_step ((go_at_call 13; exact (iCanBe_of (by assumption) _).calm)))); refine wpQuiet_nil ?_; rintro w1 ⟨x1, rfl⟩)
            have HT1 := hid (HT.out.over (show Ext wr (ovr wr x1) by repeat (first | exact Ext.refl _ | refine Ext.alloc ?_ _ | assumption | refine Ext.over ?_ _ | refine Ext.drew ?_ | refine Ext.drewN ?_ _)))
            clear HT c1 c2 c3 d1 d2 d3 t1
            generalize ovr wr x1 = wq at *
            obtain ⟨t1, t2⟩ := own_bool HT1.out.bools hlt
            go_upto_region 6 with fail
            have HT2 := hid (HT1.out.setT k true)
            clear HT1 t1 t2
            generalize wq.setCell _ _ = w2 at *
            obtain ⟨g1, g2⟩ := own_int HT2.out.ints hlt
            by_cases hneg : b.getD k 0 < 0
            · rw [loop_free hU hneg] at HR
              obtain ⟨z, hz⟩ : ∃ z, b.getD k 0 = z := ⟨_, rfl⟩
              rw [hz] at g1 hneg
              clear hz
              go_wp2_with fail
              go_ret
              rw [HR.out]
              exact ⟨rfl, HT2.out.setB k i⟩
            · have hbl := HB.out k hlt
              obtain ⟨j, hj⟩ : ∃ j : Nat, b.getD k 0 = j := ⟨(b.getD k 0).toNat, by omega⟩
              have ht2 : (b.getD k 0).toNat = j := by omega
              have hls := Match.left_set t k ht
              have hok : Match.Ok l.length (b, t.set k true) := ⟨HT2.out.lenB, HT2.out.lenT, HB.out⟩
              have C := IH.out j b (t.set k true) w2 (by omega) HT2.out HB.out (by omega)
              have D := (Match.ext_done (c := cb l s) f j (b, t.set k true) (by omega) hok (by show Match.left (t.set k true) < f; omega)).1
              have HD := hid D
              clear D
              cases hr : (Match.ext (cb l s) l.length f j (b, t.set k true)).1
              · have HR2 := hid (HR.out.trans (loop_on hU hneg (by rw [ht2]; exact hr)))
                rw [ht2] at HR2
                rw [hr] at C
                have HC := hid C
                rw [hj] at g1
                clear HR hbl hneg hj ht2 hr C
                go_wp2_with (go_at_call 26; refine HC.out.mono ?_; rintro e w3 ⟨rfl, HT3⟩; have HT4 := hid HT3; clear HT3)
                go_roundw
                case rel => exact ⟨k + 1, _, _, by omega, by go_num, HT4.out, HD.out.ok.2.2, by have := Match.left_le _ _ (by rw [HD.out.ok.2.1]; exact hok.2.1) HD.out.more; simp only at this; omega, HR2.out⟩
                case measure => simp [intOf]; omega
              · have HR2 := hid (HR.out.trans (loop_take hU hneg (by rw [ht2]; exact hr)))
                rw [ht2] at HR2
                rw [hr] at C
                have HC := hid C
                rw [hj] at g1
                clear HR hbl hneg hj ht2 hr C
                go_wp2_with (go_at_call 26; refine HC.out.mono ?_; rintro e w3 ⟨rfl, HT3⟩; have HT4 := hid HT3; obtain ⟨g3, g4⟩ := own_int HT3.ints hlt; clear HT3)
                go_ret
                rw [HR2.out]
                exact ⟨rfl, HT4.out.setB k i⟩
        · rw [ht] at t1
          have HS := hid (HR.out.trans (by rw [range'_cons hlt, loop_skip (show (t.getD k true || !cb l s i k) = true by rw [ht]; rfl)]))
          clear HR
          go_wp2_with fail
          (refine wp_region_calm (by kernel_rfl) (by kernel_rfl) ?_; (repeat (go_big_quiet_step (fail))); refine wpQuiet_nil ?_; rintro w1 ⟨x1, rfl⟩)
          go_wp2_with fail
          go_roundw
          case rel => exact ⟨k + 1, b, t, by omega, by go_num, HT.out.over (by repeat (first | exact Ext.refl _ | refine Ext.alloc ?_ _ | assumption | refine Ext.over ?_ _ | refine Ext.drew ?_ | refine Ext.drewN ?_ _)), HB.out, hf, HS.out⟩
          case measure => simp [intOf]; omega
      · go_wp2_with fail
        go_ret
        obtain rfl : k = l.length := by omega
        rw [HR.out, Nat.sub_self]
        exact ⟨rfl, HT.out⟩
end Go.Proofs.Ytnjmhdlcmbpfpaa
