/- Walks: the table over sets of halls. Conditions: at most seven halls. -/
import Derived.Test.YtngniniiohgilaaBorder
import Derived.Test.YtngniniiohgilaaBestP
import Derived.Test.YtngniniiohgilaaDist
import Derived.Test.YtngniniiohgilaaHer2
namespace Go.Proofs.Ytngniniiohgilaa
open Go.RowKit
set_option linter.unusedVariables false

theorem or_gt {S k : Nat} (h : S.testBit k = false) : S < S ||| 2 ^ k := by
  have h1 : S ≤ S ||| 2 ^ k := Nat.left_le_or
  have h2 : S ≠ S ||| 2 ^ k := fun e => by
    have h3 : (S ||| 2 ^ k).testBit k = true := by rw [or_test]; simp
    rw [← e, h] at h3
    cases h3
  omega
theorem stepV_congr {l : List T2} {h : Nat} {v v' : Nat → Int} {S : Nat} (e : ∀ T, S < T → v T = v' T) : ∀ k, stepV l h v S k = stepV l h v' S k
  | 0 => rfl
  | k + 1 => by
    rw [stepV, stepV, stepV_congr e k]
    cases hb : S.testBit k
    · rw [e _ (or_gt hb)]
    · rfl
theorem stepV_bound {l : List T2} {h : Nat} {v : Nat → Int} {S : Nat} (h0 : ∀ T, 0 ≤ v T) : ∀ k, 0 ≤ stepV l h v S k ∧ stepV l h v S k ≤ 100
  | 0 => by show (0 : Int) ≤ 100 ∧ (100 : Int) ≤ 100; omega
  | k + 1 => by
    have h1 := stepV_bound (l := l) (h := h) (S := S) h0 k
    have h2 := bord_bound l h S
    have h3 := h0 (S ||| 2 ^ k)
    rw [stepV]
    split <;> omega
theorem stepV_skip {l : List T2} {h : Nat} {v : Nat → Int} {S k : Nat} (hb : S.testBit k = true) : stepV l h v S (k + 1) = stepV l h v S k := by rw [stepV, hb]; rfl
theorem stepV_take {l : List T2} {h : Nat} {v : Nat → Int} {S k : Nat} (hb : S.testBit k = false) : stepV l h v S (k + 1) = min (stepV l h v S k) (max (bord l h S + 1) (v (S ||| 2 ^ k))) := by rw [stepV, hb]; rfl
/-- The cells from S on hold what the sets need. -/
def Tab (l : List T2) (h : Nat) (v : Nat → Int) (S : Nat) (cs : List Value) : Prop :=
  (∀ T, S ≤ T → T < 2 ^ h → cs[T]? = some (.int .i64 (v T))) ∧ v (2 ^ h - 1) = 0 ∧ (∀ T, S ≤ T → T < 2 ^ h - 1 → v T = stepV l h v T h) ∧ ∀ T, 0 ≤ v T ∧ v T ≤ 100
theorem Tab.first (l : List T2) (h : Nat) (hp : 0 < 2 ^ h) {cs : List Value} (hc : cs[2 ^ h - 1]? = some (.int .i64 0)) : Tab l h (fun _ => 0) (2 ^ h - 1) cs :=
  ⟨fun T h1 h2 => by obtain rfl : T = 2 ^ h - 1 := by omega
                     exact hc, rfl, fun T h1 h2 => by omega, fun T => by show (0 : Int) ≤ 0 ∧ (0 : Int) ≤ 100; omega⟩
theorem Tab.next {l : List T2} {h : Nat} {v : Nat → Int} {S : Nat} {cs cs' : List Value} (t : Tab l h v (S + 1) cs) (hS : S < 2 ^ h - 1) (h1 : cs'[S]? = some (.int .i64 (stepV l h v S h))) (h2 : ∀ T, S < T → cs'[T]? = cs[T]?) :
    Tab l h (fun T => if T = S then stepV l h v S h else v T) S cs' := by
  obtain ⟨t1, t2, t3, t4⟩ := t
  have hc : ∀ T, S ≤ T → stepV l h v T h = stepV l h (fun T => if T = S then stepV l h v S h else v T) T h := fun T hT =>
    stepV_congr (fun U hU => by show v U = if U = S then _ else _; rw [if_neg (by omega)]) h
  refine ⟨fun T hT hl => ?_, ?_, fun T hT hl => ?_, fun T => ?_⟩
  · show cs'[T]? = some (.int .i64 (if T = S then _ else _))
    split
    · rename_i e; rw [e]; exact h1
    · rw [h2 T (by omega)]; exact t1 T (by omega) hl
  · show (if 2 ^ h - 1 = S then _ else _) = _
    rw [if_neg (by omega)]; exact t2
  · show (if T = S then _ else _) = _
    split
    · rename_i e; subst e; exact hc T (Nat.le_refl _)
    · rw [← hc T (by omega)]; exact t3 T (by omega) hl
  · show 0 ≤ (if T = S then _ else _) ∧ (if T = S then _ else _) ≤ _
    split
    · exact stepV_bound (fun T => (t4 T).1) h
    · exact t4 T
theorem Tab.rec {l : List T2} {h : Nat} {v : Nat → Int} {cs : List Value} (t : Tab l h v 0 cs) : RecV l h v := ⟨t.2.1, fun S hS => t.2.2.1 S (by omega) hS⟩
set_option maxHeartbeats 6400000 in
set_option maxRecDepth 100000 in
theorem l24Best_any (h : Nat) (A : Option Addr) (n c : Nat) (l : List T2) (w : World) (hl : Row w A (l.flatMap T2.v)) (hn : l.length = n) (hx : n ≤ 12) (h7 : h ≤ 7) (h1 : 1 ≤ h) :
    Calls Try.prog 66 #[.agg #[.int .i64 h, .slice A n c]] w fun en w' => ∃ g v cs, en = .returned (.slice (some ⟨g, 0, none⟩) (2 ^ h) (2 ^ h)) ∧ w'.ownsRow w.heap.size 3 1 (.slice (some ⟨g, 0, none⟩) (2 ^ h) (2 ^ h)) (2 ^ h) cs ∧ Tab l h v 0 cs ∧ Ext w w' := by
  obtain ⟨i0, hi, hz0, hz1, hz2⟩ := info_parts info_int
  subst hn
  obtain ⟨hp, hp'⟩ := pow_small (show h ≤ 8 by omega)
  have hp7 : 2 ^ h ≤ 128 := Nat.pow_le_pow_right (by omega) h7
  have hp1 : 2 ≤ 2 ^ h := Nat.le_trans (show 2 ≤ 2 ^ 1 by decide) (Nat.pow_le_pow_right (by omega) h1)
  obtain ⟨N, hN⟩ : ∃ N, N = 2 ^ h := ⟨_, rfl⟩
  have HN := hid hN
  rw [← hN] at hp hp' hp7 hp1 ⊢
  clear hN
  go_enter Try.func66, Try.ntmps66
  go_wp2_with (at_make; refine wpList_make_full _ rfl (.tmp 12) (.tmp 12) 31 rfl w.heap.size 3 i0 _ 1 Try.underlying31 hi hz0 hz1 _ _ _ _ N rfl rfl rfl rfl (by rw [hz2]; omega) (by unfold maxLen; omega) (by simp) ?_)
  intro w1 hown hg
  have HB := hid (show Bx h A l.length c w w1 from by
    have hb : w1.heap[w.heap.size]? = (w.alloc (.cells #[.int .i64 ↑h, .slice A l.length c] 26)).heap[w.heap.size]? := hg.block _ (by simp) (by simp)
    exact ⟨Below.grown (by repeat (first | exact Ext.refl _ | refine Ext.alloc ?_ _ | assumption | refine Ext.over ?_ _ | refine Ext.drew ?_ | refine Ext.drewN ?_ _)) hg (by simp) (by simp), (World.cell?_of_block hb).trans (by go_simp), (World.cell?_of_block hb).trans (by go_simp)⟩)
  obtain ⟨gd, hgd⟩ : ∃ gd, gd = w.heap.size + 1 := ⟨_, rfl⟩
  rw [← hgd] at hown ⊢
  have HGD := hid (show w.heap.size < gd by omega)
  rw [toList_madeCells_one] at hown
  have HO := hid hown
  have HT0 := hid (show Tab l h (fun _ => 0) (N - 1) (List.replicate N (.int .i64 0)) by
    have := Tab.first l h (by rw [← HN.out]; omega) (cs := List.replicate N (.int .i64 0)) (by rw [← HN.out, List.getElem?_replicate]; rw [if_pos (by omega)])
    rw [← HN.out] at this
    exact this)
  clear hgd hown hg hz0 hz1 hz2 hi
  go_wp2_with fail
  go_loopw [5] (fun iv wr => ∃ (S : Nat) (v : Nat → Int) (cs : List Value), S ≤ N - 1 ∧ iv = .int .i64 ((S : Int) - 1) ∧ wr.ownsRow w.heap.size 3 1 (.slice (some ⟨gd, 0, none⟩) N N) N cs ∧ Tab l h v S cs ∧ Bx h A l.length c w wr) (fun iv _ => (intOf iv + 1).toNat)
  case atStart => exact ⟨N - 1, _, _, Nat.le_refl _, by first | rfl | (congr 1; omega), HO.out, HT0.out, HB.out⟩
  case round =>
    obtain ⟨S', v, cs, hS, rfl, hown, htab, hbx⟩ := hrel
    have HX := hid hbx
    have HW := hid hown
    have HT := hid htab
    clear hown htab hbx HO HB HT0
    rename World => wo
    rcases S' with _ | S
    · have e0 : (((0 : Nat) : Int) - 1) = -1 := by omega
      rw [e0]
      have HE := hid HX.out.1
      go_wp2_with fail
      go_ret
      exact ⟨gd, v, cs, rfl, HW.out, HT.out, HE.out⟩
    · have e0 : (((S + 1 : Nat) : Int) - 1) = (S : Int) := by omega
      rw [e0]
      clear e0
      have hSN : S < N := by omega
      have hS128 : S < 128 := by omega
      have hst := HW.out.stored S (.int .i64 100)
      have f1 := HW.out.frozenAt S
      have c1 : ∃ u, wo.cell? ⟨gd, S, none⟩ = some u := by
        rw [HW.out.cellAt S (by omega)]
        have := HW.out.1
        exact ⟨_, List.getElem?_eq_getElem (by omega)⟩
      obtain ⟨u, c1⟩ := c1
      have HS := hid hst
      have hcl := HW.out.1
      have HCL := hid hcl
      clear hst hcl
      go_wp2_with fail
      go_loopw [6] (fun kv wr => ∃ (k : Nat) (cs' : List Value), k ≤ h ∧ kv = .int .i64 ↑k ∧ wr.ownsRow w.heap.size 3 1 (.slice (some ⟨gd, 0, none⟩) N N) N cs' ∧ cs'[S]? = some (.int .i64 (stepV l h v S k)) ∧ (∀ T, S < T → cs'[T]? = cs[T]?) ∧ Bx h A l.length c w wr) (fun kv _ => h - (intOf kv).toNat)
      case atStart =>
        refine ⟨0, _, by omega, rfl, HS.out.1, ?_, fun T hT => ?_, HX.out.grown HS.out.2 HGD.out⟩
        · rw [List.getElem?_set_self (by have := HCL.out; omega)]; rfl
        · rw [List.getElem?_set_ne (by omega)]
      case round =>
        obtain ⟨k, cs', hk, rfl, hown, hcS, hcT, hbx⟩ := hrel
        have HX2 := hid hbx
        have HW2 := hid hown
        have HCS := hid hcS
        have HCT := hid hcT
        have b0 := hbx.2.1
        have b1 := hbx.2.2
        have HL := hid (hl.ext hbx.1)
        clear hown hbx hcS hcT HS c1 f1
        by_cases hlt : k < h
        · cases hb : S.testBit k
          rotate_left
          · obtain ⟨e0, e1⟩ := bit_yes (k := k) (show S < 256 by omega) hb
            have HV := hid (stepV_skip (l := l) (h := h) (v := v) hb)
            go_wp2_with fail
            go_roundw
            case rel => exact ⟨k + 1, cs', by omega, by go_num, HW2.out, by rw [HV.out]; exact HCS.out, HCT.out, HX2.out⟩
            case measure => simp [intOf]; omega
          · obtain ⟨e0, e1⟩ := bit_no (k := k) (show S < 256 by omega) hb
            have HV := hid (stepV_take (l := l) (h := h) (v := v) hb)
            obtain ⟨hor, hor'⟩ := or_bit hS128 (show k < 7 by omega)
            have hgt := or_gt hb
            obtain ⟨Q, hQ⟩ : ∃ Q, Q = S ||| 2 ^ k := ⟨_, rfl⟩
            have hQN : Q < N := by
              rw [hQ, HN.out]
              exact Nat.or_lt_two_pow (by rw [← HN.out]; exact hSN) (Nat.pow_lt_pow_right (by omega) hlt)
            rw [← hQ] at hor hor' hgt HV
            have HQ := hid hQ
            clear hQ
            have hbo := bord_bound l h S
            obtain ⟨b, hbd⟩ : ∃ b, b = bord l h S := ⟨_, rfl⟩
            rw [← hbd] at hbo HV
            have HBD := hid hbd.symm
            have hsb := stepV_bound (l := l) (h := h) (S := S) (fun T => (HT.out.2.2.2 T).1) k
            obtain ⟨x, hx1⟩ : ∃ x, x = stepV l h v S k := ⟨_, rfl⟩
            rw [← hx1] at hsb HV HCS
            have hvq := HT.out.2.2.2 Q
            obtain ⟨y, hy1⟩ : ∃ y, y = v Q := ⟨_, rfl⟩
            rw [← hy1] at hvq HV
            have c1 : wr.cell? ⟨gd, S, none⟩ = some (.int .i64 x) := by rw [HW2.out.cellAt S (by omega)]; exact HCS.out
            have c2 : wr.cell? ⟨gd, Q, none⟩ = some (.int .i64 y) := by
              rw [HW2.out.cellAt Q (by omega), HCT.out Q hgt, hy1]
              exact HT.out.1 Q (by omega) (by rw [← HN.out]; exact hQN)
            clear hbd hx1 hy1
            have hor2 : bits .or .i64 (S : Int) (IntKind.i64.wrap (2 ^ k)) = (Q : Int) := by rw [IntWalk.i64_left]; exact hor
            have hw1 : IntKind.i64.wrap (b + 1) = b + 1 := IntWalk.i64_in _ ⟨by omega, by omega⟩
            go_wp2_with fail
            refine wp_region_her2 [true, true, true, true, true, true, true, true, true, true, true, true, true, true, true, true, true, true, true, true, false] (by kernel_rfl) (by kernel_rfl) ?_
            simp only [selB, notB, List.map_cons, List.map_nil, Bool.not_true, Bool.not_false]
            repeat (refine wpH_step (fun K hK => ?_); go_simp; first | (refine hK _ ?_; clear hK K) | (apply Exists.intro; refine ⟨fun _ => ?_, hK _ ?_⟩; (go_at_call 67; exact (gives_v HBD.out (border_any h _ _ _ l S _ (HL.out.ext (by repeat (first | exact Ext.refl _ | refine Ext.alloc ?_ _ | assumption | refine Ext.over ?_ _ | refine Ext.drew ?_ | refine Ext.drewN ?_ _))) rfl (by omega) (by omega) hS128)).over); clear hK K))
            refine wpH_nil ?_
            refine wpT2_last (fun w2 hw2 => ?_)
            have e2 := later_ext hw2
            have HW3 := hid (own_ext HW2.out e2)
            have HX3 := hid (HX2.out.ext e2)
            obtain ⟨u3, c3, f3⟩ := own_some HW3.out S (by omega)
            clear hw2 e2
            go_simp
            have HV2 := hid (show stepV l h v S (k + 1) = (if (if b + 1 < y then y else b + 1) < x then (if b + 1 < y then y else b + 1) else x) by
              rw [HV.out]
              split <;> split <;> omega)
            rw [← HV2.out]
            have hst := HW3.out.stored S (.int .i64 (stepV l h v S (k + 1)))
            have HS3 := hid hst
            have hl3 := HW2.out.1
            have HL3 := hid hl3
            clear hst hl3 c3 f3 c1 c2
            go_wp2_with fail
            go_roundw
            case rel =>
              refine ⟨k + 1, _, by omega, by go_num, HS3.out.1, ?_, fun T hT => ?_, HX3.out.grown HS3.out.2 HGD.out⟩
              · rw [List.getElem?_set_self (by have := HL3.out; omega)]
              · rw [List.getElem?_set_ne (by omega)]; exact HCT.out T hT
            case measure => simp [intOf]; omega
        · obtain rfl : k = h := by omega
          have HTN := hid (HT.out.next (by rw [← HN.out]; omega) HCS.out HCT.out)
          go_wp2_with fail
          go_roundw
          case rel => exact ⟨S, _, cs', by omega, rfl, HW2.out, HTN.out, HX2.out⟩
          case measure => simp [intOf]
end Go.Proofs.Ytngniniiohgilaa
