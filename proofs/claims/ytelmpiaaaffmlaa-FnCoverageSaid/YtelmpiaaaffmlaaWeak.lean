/- Walks: WeakCamera, both. Conditions: at most 1048577 corners and cameras; the list's length is not above its room. -/
import Derived.Test.YtelmpiaaaffmlaaBlind
import Derived.Test.YtelmpiaaaffmlaaRest
namespace Go.Proofs.Ytelmpiaaaffmlaa
open Go.RowKit
set_option linter.unusedVariables false

/-- The first best of the first k numbers. -/
def wkTo (f : Nat → Nat) : Nat → Option (Nat × Nat)
  | 0 => none
  | k + 1 => match wkTo f k with
    | none => some (k, f k)
    | some (i, m) => if m < f k then some (k, f k) else some (i, m)
theorem wkTo_none {f : Nat → Nat} {k : Nat} (h : wkTo f k = none) : wkTo f (k + 1) = some (k, f k) := by simp only [wkTo, h]
theorem wkTo_more {f : Nat → Nat} {k i m : Nat} (h : wkTo f k = some (i, m)) (hlt : m < f k) : wkTo f (k + 1) = some (k, f k) := by simp only [wkTo, h]; rw [if_pos hlt]
theorem wkTo_less {f : Nat → Nat} {k i m : Nat} (h : wkTo f k = some (i, m)) (hlt : ¬ m < f k) : wkTo f (k + 1) = some (i, m) := by simp only [wkTo, h]; rw [if_neg hlt]
theorem wkTo_lt {f : Nat → Nat} : ∀ {k i m : Nat}, wkTo f k = some (i, m) → i < k ∧ m = f i
  | 0, i, m, h => by simp [wkTo] at h
  | k + 1, i, m, h => by
    simp only [wkTo] at h
    split at h
    · injection h with h; injection h with h1 h2; subst h1; exact ⟨by omega, h2.symm⟩
    · rename_i i' m' h'
      have := wkTo_lt h'
      split at h <;> (injection h with h; injection h with h1 h2; subst h1)
      · exact ⟨by omega, h2.symm⟩
      · exact ⟨by omega, by rw [← h2]; exact this.2⟩
def wI (o : Option (Nat × Nat)) : Int := match o with | none => -1 | some (i, _) => (i : Int)
def mI (z : Int) (o : Option (Nat × Nat)) : Int := match o with | none => z | some (_, m) => (m : Int)
def blindN (L : List T2) (C : List T7) (k : Nat) : Nat := (blindL L (restN C k)).length
def weakR (L : List T2) (C : List T7) : Int := if roomS L && decide (C.length ≤ 6) then wI (wkTo (blindN L C) C.length) else -1
theorem info_CameraW : (Try.prog.info? 30).map (fun i => (i.zero, i.size, i.bytes)) = some (some (.agg #[.int .i64 0, .int .i64 0, .int .i64 0, .int .i64 0, .int .i64 0, .int .i64 0, .int .i64 0]), 7, 56) := by kernel_rfl
theorem one7 {l : List T7} : ∀ u ∈ l.flatMap T7.v, u.oneCell' = true := by
  intro u hu
  obtain ⟨x, _, hx⟩ := List.mem_flatMap.1 hu
  simp only [T7.v, List.mem_cons, List.not_mem_nil, or_false] at hx
  rcases hx with rfl | rfl | rfl | rfl | rfl | rfl | rfl <;> rfl
theorem own_cap {w : World} {base n c size : Nat} {e : TypeId} {A : Option Addr} {xs : List Value} (h : w.ownsRow base e size (.slice A n c) n xs) : n ≤ c := by
  rcases h.2 with ⟨hv, hn⟩ | ⟨g, cap, cur, hv, _, _, hc, _⟩
  · injection hv with _ h2 h3; omega
  · injection hv with _ h2 h3; omega
theorem restN_flat {w : World} {b off : Nat} {C : List T7} (h : Row w (some ⟨b, off, none⟩) (C.flatMap T7.v)) (k : Nat) : Row w (some ⟨b, off, none⟩) ((C.take k).flatMap T7.v) ∧ Row w (some ⟨b, off + (k + 1) * 7, none⟩) ((C.drop (k + 1)).flatMap T7.v) := by
  rw [← flat_take T7.v 7 T7.len, ← flat_drop T7.v 7 T7.len]
  exact ⟨row_take h _, row_drop h _⟩
set_option maxRecDepth 100000 in
set_option maxHeartbeats 1600000 in
theorem iWeak_any (A : Option Addr) (n c : Nat) (L : List T2) (B : Option Addr) (m d : Nat) (C : List T7) (w : World) (hl : Row w A (L.flatMap T2.v)) (hn : L.length = n) (hx : n ≤ 1048577) (hr : Row w B (C.flatMap T7.v)) (hm : C.length = m) (hy : m ≤ 1048577) (hd : m ≤ d) : Gives Try.prog 20 #[.agg #[.slice A n c], .slice B m d] w (.int .i64 (weakR L C)) := by
  subst hm
  have HL := hid hl
  have HR := hid hr
  clear hl hr
  cases hro : roomS L
  · have HV := hid (show weakR L C = -1 by unfold weakR; rw [hro]; rfl)
    (unfold Gives; go_enter Try.func20, Try.ntmps20)
    go_wp2_with (go_at_call 38; refine (gives_b hro (iRoom_any A n c L _ (HL.out.ext (by repeat (first | exact Ext.refl _ | refine Ext.alloc ?_ _ | assumption | refine Ext.over ?_ _ | refine Ext.drew ?_ | refine Ext.drewN ?_ _))) hn hx)).over.mono ?_; rintro e w' ⟨rfl, xw, rfl⟩)
    go_ret
    exact ⟨by rw [HV.out]; rfl, by repeat (first | exact Ext.refl _ | refine Ext.alloc ?_ _ | assumption | refine Ext.over ?_ _ | refine Ext.drew ?_ | refine Ext.drewN ?_ _)⟩
  by_cases h6 : C.length ≤ 6
  rotate_left
  · have HV := hid (show weakR L C = -1 by unfold weakR; rw [decide_eq_false h6]; simp)
    have hbt : btw (C.length : Int) 1 6 = false := by unfold btw; rw [decide_eq_false (show ¬ (C.length : Int) ≤ 6 by omega)]; simp
    (unfold Gives; go_enter Try.func20, Try.ntmps20)
    go_wp2_with (first | (go_at_call 38; refine (gives_b hro (iRoom_any A n c L _ (HL.out.ext (by repeat (first | exact Ext.refl _ | refine Ext.alloc ?_ _ | assumption | refine Ext.over ?_ _ | refine Ext.drew ?_ | refine Ext.drewN ?_ _))) hn hx)).over.mono ?_; rintro e w' ⟨rfl, xw, rfl⟩) | (go_at_call 34; refine (gives_b hbt (between_any _ _ _ _)).over.mono ?_; rintro e w' ⟨rfl, xw, rfl⟩))
    go_ret
    exact ⟨by rw [HV.out]; rfl, by repeat (first | exact Ext.refl _ | refine Ext.alloc ?_ _ | assumption | refine Ext.over ?_ _ | refine Ext.drew ?_ | refine Ext.drewN ?_ _)⟩
  by_cases h1 : 1 ≤ C.length
  rotate_left
  · obtain rfl : C = [] := List.eq_nil_of_length_eq_zero (by omega)
    clear h1 h6 hy hd
    have HV := hid (show weakR L [] = -1 by unfold weakR; rw [hro]; rfl)
    have hbt : btw 0 1 6 = false := by decide
    show Gives Try.prog 20 #[.agg #[.slice A n c], .slice B 0 d] w (.int .i64 (weakR L []))
    (unfold Gives; go_enter Try.func20, Try.ntmps20)
    go_wp2_with (first | (go_at_call 38; refine (gives_b hro (iRoom_any A n c L _ (HL.out.ext (by repeat (first | exact Ext.refl _ | refine Ext.alloc ?_ _ | assumption | refine Ext.over ?_ _ | refine Ext.drew ?_ | refine Ext.drewN ?_ _))) hn hx)).over.mono ?_; rintro e w' ⟨rfl, xw, rfl⟩) | (go_at_call 34; refine (gives_b hbt (between_any _ _ _ _)).over.mono ?_; rintro e w' ⟨rfl, xw, rfl⟩))
    go_ret
    exact ⟨by rw [HV.out]; rfl, by repeat (first | exact Ext.refl _ | refine Ext.alloc ?_ _ | assumption | refine Ext.over ?_ _ | refine Ext.drew ?_ | refine Ext.drewN ?_ _)⟩
  have hbt : btw (C.length : Int) 1 6 = true := by unfold btw; rw [decide_eq_true (show (C.length : Int) ≤ 6 by omega), decide_eq_true (show (1 : Int) ≤ C.length by omega)]; rfl
  have HV := hid (show weakR L C = wI (wkTo (blindN L C) C.length) by unfold weakR; rw [hro, decide_eq_true h6]; rfl)
  have HB := hid (fun (E : Option Addr) (q e : Nat) (C' : List T7) w' (h : Row w' A (L.flatMap T2.v)) (h' : Row w' E (C'.flatMap T7.v)) (hq : C'.length = q) (hy' : q ≤ 1048577) => iBlind_any A n c L E q e C' w' h hn hx h' hq hy')
  (unfold Gives; go_enter Try.func20, Try.ntmps20)
  go_wp2_with fail
  refine (gives_b hro (iRoom_any A n c L _ (HL.out.ext (by repeat (first | exact Ext.refl _ | refine Ext.alloc ?_ _ | assumption | refine Ext.over ?_ _ | refine Ext.drew ?_ | refine Ext.drewN ?_ _))) hn hx)).mono ?_
  rintro _ w1 ⟨rfl, e1⟩
  have b0 : w1.cell? ⟨w.heap.size, 0, none⟩ = some (.slice A n c) := old_cell e1 (by go_simp)
  have E1 := hid (Ext.trans (show Ext w _ by repeat (first | exact Ext.refl _ | refine Ext.alloc ?_ _ | assumption | refine Ext.over ?_ _ | refine Ext.drew ?_ | refine Ext.drewN ?_ _)) e1)
  clear e1
  go_wp2_with fail
  refine (gives_b hbt (between_any _ _ _ _)).mono ?_
  rintro _ w2 ⟨rfl, e2⟩
  have b0 := old_cell e2 b0
  have E2 := hid (E1.out.trans e2)
  clear e2 E1 hbt
  go_wp2_with fail
  go_loopw [5, 6, 21] (fun wv mv kv wr => ∃ (k : Nat), k ≤ C.length ∧ kv = .int .i64 ↑k ∧ wv = .int .i64 (wI (wkTo (blindN L C) k)) ∧ mv = .int .i64 (mI (-1) (wkTo (blindN L C) k)) ∧ Ext w2 wr) (fun _ _ kv _ => C.length - (intOf kv).toNat)
  case atStart => exact ⟨0, by omega, rfl, rfl, rfl, Ext.refl _⟩
  case round =>
    obtain ⟨k, hk, rfl, rfl, rfl, he⟩ := hrel
    have HE := hid he
    have HX := hid (E2.out.trans he)
    have r0 := old_cell he b0
    clear he
    by_cases hlt : k < C.length
    · obtain ⟨blk, off, hB, _⟩ := (HR.out.ext HX.out).t7 hlt
      subst hB
      have hkt : (k : Int) < C.length := by omega
      obtain ⟨o, ho⟩ : ∃ o, o = wkTo (blindN L C) k := ⟨_, rfl⟩
      have HO := hid ho
      rw [← ho]
      clear ho
      obtain ⟨q, hq⟩ : ∃ q, q = k + 1 := ⟨_, rfl⟩
      have hw : IntKind.i64.wrap ((k : Int) + 1) = (q : Int) := by rw [IntWalk.i64_in _ (by omega)]; omega
      have hkd : k ≤ d := by omega
      have hkd' : (k : Int) ≤ d := by omega
      have hk0 : (0 : Int) ≤ k := by omega
      have hq1 : q ≤ C.length := by omega
      have hq1' : (q : Int) ≤ C.length := by omega
      have hd' : (C.length : Int) ≤ d := by omega
      have HQ := hid hq
      clear hq
      go_wp2_with fail
      refine wp_region_x [.q 1, .q 2, .q 3, .q 5, .q 6, .q 7, .q 8, .u 0, .u 4, .u 9, .u 10] (by kernel_rfl) (by kernel_rfl) (fun w3 e3 => ?_)
      have e3' : Ext wr w3 := Ext.trans (by repeat (first | exact Ext.refl _ | refine Ext.alloc ?_ _ | assumption | refine Ext.over ?_ _ | refine Ext.drew ?_ | refine Ext.drewN ?_ _)) e3
      have E3 := hid (HX.out.trans e3')
      have r0 := old_cell e3' r0
      have HE3 := hid (HE.out.trans e3')
      have HR3 := hid (restN_flat (HR.out.ext E3.out) k)
      have HRR := hid (show Row w3 (if d = q then some ⟨blk, off, none⟩ else some ⟨blk, off + q * 7, none⟩) ((C.drop q).flatMap T7.v) by
        split
        · rw [List.drop_eq_nil_of_le (by omega)]; exact fun h => absurd rfl h
        · rw [HQ.out]; exact HR3.out.2)
      have HEN := hid (show (if d = q then some (⟨blk, off, none⟩ : Addr) else some ⟨blk, off + q * 7, none⟩) = none → d - q = 0 by split <;> intro h <;> cases h)
      clear e3 e3'
      simp only [pick, List.getElem?_cons_succ, List.getElem?_cons_zero]
      repeat (refine wpZ_q (fun K hK => ?_); go_simp; refine hK _ ?_; clear hK K)
      generalize (if d = q then some (⟨blk, off, none⟩ : Addr) else some ⟨blk, off + q * 7, none⟩) = EA at HRR HEN ⊢
      refine wpZ_u ?_
      refine stepH_of (fun K hK => ?_)
      go_simp
      refine hK _ _ (Below.alloc (Below.refl _ _) (Nat.le_refl _) _) ?_; clear hK K
      have HO4 := hid (own_empty w3 w3.heap.size w3.heap.size rfl (Nat.le_refl _) 30 7)
      refine wpZ_u ?_
      refine stepH_of (fun K hK => ?_)
      rw [if_pos (by rfl)]
      refine her_pushS w3 (.tmp 24) (.tmp 27) 41 rfl 30 Try.underlying41 info_CameraW rfl (by decide) _ 0 [] rfl HO4.out (by repeat (first | exact Ext.refl _ | refine Ext.alloc ?_ _ | assumption | refine Ext.over ?_ _ | refine Ext.drew ?_ | refine Ext.drewN ?_ _)) (some ⟨blk, off, none⟩) k d ((C.take k).flatMap T7.v) rfl (by intro h; cases h) (by rw [flat_len _ 7 T7.len, List.length_take]; congr 1; omega) (HR3.out.1.ext (by repeat (first | exact Ext.refl _ | refine Ext.alloc ?_ _ | assumption | refine Ext.over ?_ _ | refine Ext.drew ?_ | refine Ext.drewN ?_ _))) one7 (by omega) (by decide) ?_
      intro A5 c5 w5 ho5 he5 hg5
      refine hK _ _ (grown_below hg5 HO4.out (Nat.le_refl _) (by simp)) ?_; clear hK K
      rw [Nat.zero_add, List.nil_append] at ho5
      rw [Nat.zero_add]
      have HO5 := hid ho5
      have HE5 := hid he5
      clear ho5 he5 hg5
      refine wpZ_u ?_
      refine stepH_of (fun K hK => ?_)
      rw [if_pos (by rfl)]
      refine her_pushS w3 (.tmp 28) (.tmp 32) 41 rfl 30 Try.underlying41 info_CameraW rfl (by decide) _ k ((C.take k).flatMap T7.v) rfl HO5.out HE5.out EA (C.length - q) (d - q) ((C.drop q).flatMap T7.v) rfl HEN.out (by rw [flat_len _ 7 T7.len, List.length_drop]) (HRR.out.ext HE5.out) one7 (by omega) (by decide) ?_
      intro A6 c6 w6 ho6 he6 hg6
      refine hK _ _ (grown_below hg6 HO5.out (Nat.le_refl _) HE5.out.size) ?_; clear hK K
      have HO6 := hid (show w6.ownsRow w3.heap.size 30 7 (.slice A6 (k + (C.length - q)) c6) (k + (C.length - q)) ((restN C k).flatMap T7.v) by unfold restN; rw [List.flatMap_append, ← HQ.out]; exact ho6)
      have hrl := restN_len hlt
      have HRL := hid (show (restN C k).length = k + (C.length - q) by rw [hrl]; have := HQ.out; omega)
      have HE6 := hid (E3.out.trans he6)
      have HX6 := hid (HE3.out.trans he6)
      have r0 := old_cell he6 r0
      generalize hnn : k + (C.length - q) = nn at HO6 HRL ⊢
      have hnn6 : nn ≤ 6 := by have := HQ.out; omega
      clear ho6 hg6 HO5 HE5 HO4 HR3 hrl hnn
      clear he6
      ((first | refine wpZ_u ?_ | skip); refine stepH_of (fun K hK => ?_); go_simp; refine hK _ _ (Below.refl _ _) ?_; clear hK K)
      refine wpZ_nil ?_
      go_wp2_with fail
      refine (HB.out A6 nn c6 (restN C k) w6 (HL.out.ext HE6.out) (Row.of_own HO6.out) HRL.out (by omega)).mono ?_
      rintro _ w7 ⟨A7, q7, c7, rfl, ho7, he7⟩
      have hq7 := own_len2 ho7
      have HBN := hid (show blindN L C k = q7 from hq7)
      have hq8 : q7 ≤ 7000 := by have := blindL_len L (restN C k); omega
      have HX7 := hid (HX6.out.trans he7)
      clear ho7 he7 HX6 HE6 HO6 hq7
      cases o with
      | none =>
        have HN := hid (wkTo_none HO.out.symm)
        simp only [wI, mI]
        go_wp2_with fail
        go_roundw
        case rel => have hq := HQ.out; exact ⟨k + 1, by omega, by go_num, by rw [HN.out]; rfl, by rw [HN.out, HBN.out]; rfl, HX7.out.trans (by repeat (first | exact Ext.refl _ | refine Ext.alloc ?_ _ | assumption | refine Ext.over ?_ _ | refine Ext.drew ?_ | refine Ext.drewN ?_ _))⟩
        case measure => have hq := HQ.out; simp [intOf]; omega
      | some im =>
        obtain ⟨i, m⟩ := im
        have hm7 := wkTo_lt HO.out.symm
        have hm8 : m ≤ 7000 := by rw [hm7.2]; exact blindL_len L _
        have hi9 : i ≤ C.length := by omega
        simp only [wI, mI]
        clear hm7
        by_cases hlt7 : m < q7
        · have HN := hid (wkTo_more HO.out.symm (by rw [HBN.out]; exact hlt7))
          have hlt8 : (m : Int) < q7 := by omega
          go_wp2_with fail
          go_roundw
          case rel => have hq := HQ.out; exact ⟨k + 1, by omega, by go_num, by rw [HN.out]; rfl, by rw [HN.out, HBN.out]; rfl, HX7.out.trans (by repeat (first | exact Ext.refl _ | refine Ext.alloc ?_ _ | assumption | refine Ext.over ?_ _ | refine Ext.drew ?_ | refine Ext.drewN ?_ _))⟩
          case measure => have hq := HQ.out; simp [intOf]; omega
        · have HN := hid (wkTo_less HO.out.symm (by rw [HBN.out]; exact hlt7))
          have hlt8 : ¬ (m : Int) < q7 := by omega
          go_wp2_with fail
          go_roundw
          case rel => have hq := HQ.out; exact ⟨k + 1, by omega, by go_num, by rw [HN.out]; rfl, by rw [HN.out]; rfl, HX7.out.trans (by repeat (first | exact Ext.refl _ | refine Ext.alloc ?_ _ | assumption | refine Ext.over ?_ _ | refine Ext.drew ?_ | refine Ext.drewN ?_ _))⟩
          case measure => have hq := HQ.out; simp [intOf]; omega
    · obtain rfl : k = C.length := by omega
      have hlt' : ¬ (C.length : Int) < C.length := by omega
      go_wp2_with fail
      go_ret
      exact ⟨by rw [HV.out]; rfl, HX.out⟩
end Go.Proofs.Ytelmpiaaaffmlaa
