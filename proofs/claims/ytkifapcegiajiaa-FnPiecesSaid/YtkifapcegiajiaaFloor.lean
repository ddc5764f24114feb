/- Walks: the points of a floor. Conditions: a valid room. -/
import Derived.Test.YtkifapcegiajiaaIn
namespace Go.Proofs.Ytkifapcegiajiaa
open Go.RowKit
set_option linter.unusedVariables false

/-- Two cells of one block. -/
def Two (w : World) (b : Nat) (x y : Int) : Prop := w.cell? ⟨b, 0, none⟩ = some (.int .i64 x) ∧ w.cell? ⟨b, 1, none⟩ = some (.int .i64 y) ∧ w.frozen? ⟨b, 0, none⟩ = false ∧ w.frozen? ⟨b, 1, none⟩ = false
theorem Two.ext {w w' : World} {b : Nat} {x y : Int} (h : Two w b x y) (e : Ext w w') : Two w' b x y := by
  obtain ⟨h0, h1, f0, f1⟩ := h
  exact ⟨old_cell e h0, old_cell e h1, old_froz e h0 f0, old_froz e h1 f1⟩
theorem Two.fresh {w : World} {x y : Int} {t : TypeId} : Two (w.alloc (.cells #[.int .i64 x, .int .i64 y] t)) w.heap.size x y :=
  ⟨(fresh_cells (j := 0) (Ext.refl _) rfl).1, (fresh_cells (j := 1) (Ext.refl _) rfl).1, (fresh_cells (j := 0) (Ext.refl _) rfl).2, (fresh_cells (j := 1) (Ext.refl _) rfl).2⟩
theorem Two.keep {w : World} {b c j : Nat} {x y : Int} (h : Two w b x y) (hne : ¬ b = c) (u : Value) : Two (w.setCell ⟨c, j, none⟩ u) b x y := by
  obtain ⟨h0, h1, f0, f1⟩ := h
  refine ⟨?_, ?_, ?_, ?_⟩
  all_goals go_simp
theorem Two.put {w : World} {b : Nat} {x y x' y' : Int} (h : Two w b x y) : Two ((w.setCell ⟨b, 0, none⟩ (.int .i64 x')).setCell ⟨b, 1, none⟩ (.int .i64 y')) b x' y' := by
  obtain ⟨h0, h1, f0, f1⟩ := h
  refine ⟨?_, ?_, ?_, ?_⟩
  all_goals go_simp
theorem below_again2 {N : Nat} {w : World} (h : N ≤ w.heap.size) (o1 o2 o3 o4 : Obj) : Below N ((w.alloc o1).alloc o2) ((w.alloc o3).alloc o4) :=
  ⟨rfl, rfl, rfl, by simp, fun k hk => ((Below.alloc (Below.alloc (Below.refl N w) h o3) (by simp; omega) o4).block k hk).trans ((Below.alloc (Below.alloc (Below.refl N w) h o1) (by simp; omega) o2).block k hk).symm⟩
theorem two_ways {G P : Prop} (h : P → G) (p : P) : G := h p
def mnF (f : Nat → Int) (z : Int) : Nat → Int
  | 0 => z
  | k + 1 => min (mnF f z k) (f k)
def mxF (f : Nat → Int) (z : Int) : Nat → Int
  | 0 => z
  | k + 1 => max (mxF f z k) (f k)
theorem mnF_bound {f : Nat → Int} {z a b : Int} (hz : a ≤ z ∧ z ≤ b) : ∀ k, (∀ j, j < k → a ≤ f j ∧ f j ≤ b) → a ≤ mnF f z k ∧ mnF f z k ≤ z
  | 0, _ => ⟨hz.1, Int.le_refl _⟩
  | k + 1, h => by
    have h1 := mnF_bound hz k (fun j hj => h j (by omega))
    have h2 := h k (by omega)
    simp only [mnF]; omega
theorem mxF_bound {f : Nat → Int} {z a b : Int} (hz : a ≤ z ∧ z ≤ b) : ∀ k, (∀ j, j < k → a ≤ f j ∧ f j ≤ b) → z ≤ mxF f z k ∧ mxF f z k ≤ b
  | 0, _ => ⟨Int.le_refl _, hz.2⟩
  | k + 1, h => by
    have h1 := mxF_bound hz k (fun j hj => h j (by omega))
    have h2 := h k (by omega)
    simp only [mxF]; omega
def xs (L : List T2) (j : Nat) : Int := (at2 L j).a
def ys (L : List T2) (j : Nat) : Int := (at2 L j).b
def lowX (L : List T2) (k : Nat) : Int := mnF (xs L) (xs L 0) k
def lowY (L : List T2) (k : Nat) : Int := mnF (ys L) (ys L 0) k
def higX (L : List T2) (k : Nat) : Int := mxF (xs L) (xs L 0) k
def higY (L : List T2) (k : Nat) : Int := mxF (ys L) (ys L 0) k
theorem box_bound {L : List T2} (h : RoomP L) (k : Nat) (hk : k ≤ L.length) : (-40 ≤ lowX L k ∧ lowX L k ≤ higX L k ∧ higX L k ≤ 40) ∧ (-40 ≤ lowY L k ∧ lowY L k ≤ higY L k ∧ higY L k ≤ 40) := by
  have hp : ∀ j, j < L.length → (-40 ≤ xs L j ∧ xs L j ≤ 40) ∧ (-40 ≤ ys L j ∧ ys L j ≤ 40) := fun j hj => by
    have := h.pok j hj; unfold pokT at this; rw [pok_iff] at this; exact this
  have h0 := hp 0 (by have := h.lo; omega)
  have a1 := mnF_bound h0.1 k (fun j hj => (hp j (by omega)).1)
  have a2 := mxF_bound h0.1 k (fun j hj => (hp j (by omega)).1)
  have a3 := mnF_bound h0.2 k (fun j hj => (hp j (by omega)).2)
  have a4 := mxF_bound h0.2 k (fun j hj => (hp j (by omega)).2)
  unfold lowX lowY higX higY
  omega
def inF (L : List T2) (p : T2) : Bool := !(placeI L p == 0)
def rowF (L : List T2) (y x0 : Int) (k : Nat) : List T2 := ((List.range k).map fun (j : Nat) => (⟨x0 + j, y⟩ : T2)).filter (inF L)
theorem rowF_yes {L : List T2} {y x0 : Int} {k : Nat} (h : inF L ⟨x0 + k, y⟩ = true) : rowF L y x0 (k + 1) = rowF L y x0 k ++ [⟨x0 + k, y⟩] := by
  simp [rowF, List.range_succ, List.filter_append, h]
theorem rowF_no {L : List T2} {y x0 : Int} {k : Nat} (h : inF L ⟨x0 + k, y⟩ = false) : rowF L y x0 (k + 1) = rowF L y x0 k := by
  simp [rowF, List.range_succ, List.filter_append, h]
theorem rowF_len (L : List T2) (y x0 : Int) (k : Nat) : (rowF L y x0 k).length ≤ k := by
  unfold rowF; exact Nat.le_trans (List.length_filter_le _ _) (by simp)
def flo (L : List T2) (x0 y0 : Int) (m : Nat) : Nat → List T2
  | 0 => []
  | k + 1 => flo L x0 y0 m k ++ rowF L (y0 + k) x0 m
theorem flo_len (L : List T2) (x0 y0 : Int) (m : Nat) : ∀ k, (flo L x0 y0 m k).length ≤ k * m
  | 0 => by simp [flo]
  | k + 1 => by
    have h1 := flo_len L x0 y0 m k
    have h2 := rowF_len L (y0 + k) x0 m
    simp only [flo, List.length_append]; rw [Nat.add_mul]; omega
def wid (L : List T2) : Nat := (higX L L.length - lowX L L.length + 1).toNat
def hei (L : List T2) : Nat := (higY L L.length - lowY L L.length + 1).toNat
def floorL (L : List T2) : List T2 := flo L (lowX L L.length) (lowY L L.length) (wid L) (hei L)
theorem own_len2 {w : World} {b : Nat} {e : TypeId} {n : Nat} {v : Value} {L : List T2} (h : w.ownsRow b e 2 v n (L.flatMap T2.v)) : L.length = n := by
  have := h.1; rw [flat_len _ 2 T2.len] at this; omega
theorem info_Point : (Try.prog.info? 35).map (fun i => (i.zero, i.size, i.bytes)) = some (some (.agg #[.int .i64 0, .int .i64 0]), 2, 16) := by kernel_rfl
set_option maxHeartbeats 3200000 in
set_option maxRecDepth 100000 in
theorem floor_any (A : Option Addr) (n c : Nat) (L : List T2) (w : World) (hl : Row w A (L.flatMap T2.v)) (hn : L.length = n) (hr : roomS L = true) :
    Calls Try.prog 48 #[.agg #[.slice A n c]] w fun en w' => ∃ B m c', en = .returned (.slice B m c') ∧ w'.ownsRow w.heap.size 35 2 (.slice B m c') m ((floorL L).flatMap T2.v) ∧ Ext w w' := by
  have hp := roomP_of hr
  have h3 := hp.lo
  have h10 := hp.hi
  subst hn
  have HP := hid hp
  have HL := hid hl
  clear hl hp hr
  obtain ⟨b, off, rfl, hc⟩ := HL.out.t2 (i := 0) (by omega)
  have hz0 : ¬ L = [] := fun e => by rw [e] at h3; simp at h3
  obtain ⟨c1, c2⟩ := hc 0 (by omega)
  have e00 : off + 0 * 2 = off := by omega
  rw [e00] at c1 c2
  have h0n : 0 < L.length := by omega
  clear hc e00
  go_enter Try.func48, Try.ntmps48
  go_wp2_with fail
  apply two_ways
  case h =>
    intro KEY
    refine wp_region_x [.q 0, .q 1, .q 2, .q 3, .q 4, .q 5, .q 6, .q 7, .s 8 9, .u 10, .u 11] (by kernel_rfl) (by kernel_rfl) (fun w1 e1 => ?_)
    have E1 := hid (Ext.trans (show Ext w _ by repeat (first | exact Ext.refl _ | refine Ext.alloc ?_ _ | assumption | refine Ext.over ?_ _ | refine Ext.drew ?_ | refine Ext.drewN ?_ _)) e1)
    have b0 := old_cell e1 (show (w.alloc (.cells #[.slice (some ⟨b, off, none⟩) L.length c] 33)).cell? ⟨w.heap.size, 0, none⟩ = some (.slice (some ⟨b, off, none⟩) L.length c) by go_simp)
    have c1 := old_cell E1.out c1
    have c2 := old_cell E1.out c2
    have hgw : w.heap.size < w1.heap.size := by have := e1.size; simp at this; omega
    clear e1
    simp only [pick, List.getElem?_cons_succ, List.getElem?_cons_zero]
    repeat (refine wpZ_q (fun K hK => ?_); go_simp; refine hK _ ?_; clear hK K)
    refine wpZ_s ?_ ?_
    all_goals
      refine stepH_of (fun K hK => ?_)
      go_simp
      refine hK _ _ (Below.alloc (Below.refl _ _) (Nat.le_refl _) _) ?_; clear hK K
      refine stepH_of (fun K hK => ?_)
      go_simp
      refine hK _ _ (Below.alloc (Below.refl _ _) (by simp) _) ?_; clear hK K
      refine wpZ_u ?_
      refine stepH_of (fun K hK => ?_)
      go_simp
      refine hK _ _ (below_again2 (Nat.le_refl _) _ _ _ _) ?_; clear hK K
      refine wpZ_u ?_
      refine stepH_of (fun K hK => ?_)
      go_simp
      refine hK _ _ (below_again2 (Nat.le_refl _) _ _ _ _) ?_; clear hK K
      refine wpZ_nil ?_
      obtain ⟨W, hW⟩ : ∃ W, W = ((w1.alloc (.cells #[.int .i64 (at2 L 0).a, .int .i64 (at2 L 0).b] 35)).alloc (.cells #[.int .i64 (at2 L 0).a, .int .i64 (at2 L 0).b] 35)) := ⟨_, rfl⟩
      have eW : Ext w1 W := by rw [hW]; repeat (first | exact Ext.refl _ | refine Ext.alloc ?_ _ | assumption | refine Ext.over ?_ _ | refine Ext.drew ?_ | refine Ext.drewN ?_ _)
      have T1 : Two W w1.heap.size (at2 L 0).a (at2 L 0).b := by rw [hW]; exact Two.fresh.ext (by repeat (first | exact Ext.refl _ | refine Ext.alloc ?_ _ | assumption | refine Ext.over ?_ _ | refine Ext.drew ?_ | refine Ext.drewN ?_ _))
      have T2 : Two W (w1.heap.size + 1) (at2 L 0).a (at2 L 0).b := by
        rw [hW]
        have := Two.fresh (w := (w1.alloc (.cells #[.int .i64 (at2 L 0).a, .int .i64 (at2 L 0).b] 35))) (x := (at2 L 0).a) (y := (at2 L 0).b) (t := 35)
        simpa using this
      have HW := hid (E1.out.trans eW)
      have r0 := old_cell eW b0
      have g1 : w.heap.size < w1.heap.size := hgw
      have g2 : w.heap.size < w1.heap.size + 1 := by omega
      have g3 : w1.heap.size ≠ w1.heap.size + 1 := by omega
      rw [← hW]
      generalize w1.heap.size + 1 = gh at *
      generalize w1.heap.size = gl at *
      clear hW eW b0 c1 c2 E1 hgw
    · have F := And.intro T1 (And.intro T2 (And.intro HW (And.intro r0 (And.intro g1 (And.intro g2 g3)))))
      clear T1 T2 HW r0 g1 g2 g3
      revert F
      revert gh
      revert gl
      revert W
      exact KEY
    · have F := And.intro T2 (And.intro T1 (And.intro HW (And.intro r0 (And.intro g2 (And.intro g1 g3.symm)))))
      clear T1 T2 HW r0 g1 g2 g3
      revert F
      revert gl
      revert gh
      revert W
      exact KEY
  case p =>
    rintro W gl gh ⟨T1, T2, HW, r0, g1, g2, g3⟩
    have HW := hid (HW.out)
    clear c1 c2
    go_wp2_with fail
    go_loopw [22] (fun kv wr => ∃ (k : Nat), k ≤ L.length ∧ kv = .int .i64 ↑k ∧ Two wr gl (lowX L k) (lowY L k) ∧ Two wr gh (higX L k) (higY L k) ∧ Ext w wr ∧ wr.cell? ⟨w.heap.size, 0, none⟩ = some (.slice (some ⟨b, off, none⟩) L.length c)) (fun kv _ => L.length - (intOf kv).toNat)
    case atStart => exact ⟨0, by omega, rfl, T1, T2, HW.out, r0⟩
    case round =>
      clear T1 T2 HW r0
      obtain ⟨k, hk, rfl, t1, t2, he, r0⟩ := hrel
      have HE := hid he
      have hbb := box_bound HP.out k hk
      obtain ⟨⟨b1, b2, b3⟩, b4, b5, b6⟩ := hbb
      clear he
      by_cases hlt : k < L.length
      · have hpk := HP.out.pok k hlt
        unfold pokT at hpk
        rw [pok_iff] at hpk
        obtain ⟨⟨p1, p2⟩, p3, p4⟩ := hpk
        obtain ⟨b', off', e', hc⟩ := (HL.out.ext HE.out).t2 hlt
        cases e'
        obtain ⟨c1, c2⟩ := hc k hlt
        have HS := hid (show lowX L (k + 1) = min (lowX L k) (at2 L k).a ∧ lowY L (k + 1) = min (lowY L k) (at2 L k).b ∧ higX L (k + 1) = max (higX L k) (at2 L k).a ∧ higY L (k + 1) = max (higY L k) (at2 L k).b from ⟨rfl, rfl, rfl, rfl⟩)
        generalize lowX L k = lx at *
        generalize lowY L k = ly at *
        generalize higX L k = hx at *
        generalize higY L k = hy at *
        generalize at2 L k = q at *
        have HT1 := hid t1
        have HT2 := hid t2
        obtain ⟨x0, x1, f0, f1⟩ := t1
        obtain ⟨y0, y1, e0, e1⟩ := t2
        clear hc
        have g3' := g3.symm
        go_wp2_with fail
        have m1 : (if q.a < lx then q.a else lx) = lowX L (k + 1) := by rw [HS.out.1]; split <;> omega
        have m2 : (if q.b < ly then q.b else ly) = lowY L (k + 1) := by rw [HS.out.2.1]; split <;> omega
        have m3 : (if hx < q.a then q.a else hx) = higX L (k + 1) := by rw [HS.out.2.2.1]; split <;> omega
        have m4 : (if hy < q.b then q.b else hy) = higY L (k + 1) := by rw [HS.out.2.2.2]; split <;> omega
        rw [m1, m2, m3, m4]
        clear m1 m2 m3 m4
        go_roundw
        case rel =>
          refine ⟨k + 1, by omega, by go_num, ?_, ?_, ?_, ?_⟩
          · exact Two.ext (((HT1.out.put).keep g3 _).keep g3 _) (Ext.alloc (Ext.refl _) _)
          · exact Two.ext (Two.put ((HT2.out.keep (fun e => g3 e.symm) _).keep (fun e => g3 e.symm) _)) (Ext.alloc (Ext.refl _) _)
          · refine Ext.alloc ?_ _
            refine Ext.setCell ?_ (by simp; omega) _
            refine Ext.setCell ?_ (by simp; omega) _
            refine Ext.setCell ?_ (by simp; omega) _
            refine Ext.setCell ?_ (by simp; omega) _
            exact HE.out
          · have g4 : ¬ gl = w.heap.size := by omega
            have g5 : ¬ gh = w.heap.size := by omega
            go_simp
        case measure => simp [intOf]; omega
      · obtain rfl : k = L.length := by omega
        obtain ⟨x0, x1, f0, f1⟩ := t1
        obtain ⟨y0, y1, e0, e1⟩ := t2
        obtain ⟨H, hH⟩ : ∃ H, H = hei L := ⟨_, rfl⟩
        obtain ⟨D, hD⟩ : ∃ D, D = wid L := ⟨_, rfl⟩
        have HF := hid (show floorL L = flo L (lowX L L.length) (lowY L L.length) D H by rw [hH, hD]; rfl)
        unfold hei at hH
        unfold wid at hD
        generalize lowX L L.length = lx at *
        generalize lowY L L.length = ly at *
        generalize higX L L.length = hx at *
        generalize higY L L.length = hy at *
        have hHb : (H : Int) = hy - ly + 1 := by omega
        have hDb : (D : Int) = hx - lx + 1 := by omega
        clear hH hD
        rename World => wo
        clear f0 f1 e0 e1
        have hH81 : H ≤ 81 := by omega
        have hD81 : D ≤ 81 := by omega
        go_wp2_with fail
        go_loopw [7, 8] (fun ov yv wr => ∃ (k : Nat) (A' : Option Addr) (m c' : Nat), k ≤ H ∧ yv = .int .i64 (ly + k) ∧ ov = .slice A' m c' ∧ wr.ownsRow wo.heap.size 35 2 (.slice A' m c') m ((flo L lx ly D k).flatMap T2.v) ∧ Ext wo wr) (fun _ yv _ => (hy + 1 - intOf yv).toNat)
        case atStart => exact ⟨0, _, _, _, by omega, by go_num, rfl, own_empty _ _ _ rfl (Nat.le_refl _) _ _, by repeat (first | exact Ext.refl _ | refine Ext.alloc ?_ _ | assumption | refine Ext.over ?_ _ | refine Ext.drew ?_ | refine Ext.drewN ?_ _)⟩
        case round =>
          obtain ⟨k, A', m, c', hk, rfl, rfl, hown, he⟩ := hrel
          have HO := hid hown
          have HX := hid he
          have HW1 := hid (HE.out.trans he)
          have r1 := old_cell he r0
          have x0' := old_cell he x0
          have x1' := old_cell he x1
          have y0' := old_cell he y0
          have y1' := old_cell he y1
          clear hown he
          by_cases hlt : k < H
          · rename World => wi
            have hle : ly + (k : Int) ≤ hy := by omega
            go_wp2_with fail
            go_loopw [7, 9] (fun ov xv wr => ∃ (j : Nat) (A' : Option Addr) (m c' : Nat), j ≤ D ∧ xv = .int .i64 (lx + j) ∧ ov = .slice A' m c' ∧ wr.ownsRow wo.heap.size 35 2 (.slice A' m c') m ((flo L lx ly D k ++ rowF L (ly + k) lx j).flatMap T2.v) ∧ Ext wo wr) (fun _ xv _ => (hx + 1 - intOf xv).toNat)
            case atStart => exact ⟨0, _, _, _, by omega, by go_num, rfl, by rw [show rowF L (ly + k) lx 0 = [] from rfl, List.append_nil]; exact HO.out, HX.out⟩
            case round =>
              clear HO
              obtain ⟨j, A', m, c', hj, rfl, rfl, hown, he⟩ := hrel
              have HO := hid hown
              have hm := own_len2 hown
              have HXI := hid he
              have HW2 := hid (HE.out.trans he)
              have r2 := old_cell he r0
              have q0 := old_cell he x0
              have q1 := old_cell he x1
              have z0 := old_cell he y0
              have z1 := old_cell he y1
              have hmb : m ≤ 7000 := by
                have h1 := flo_len L lx ly D k
                have h2 := rowF_len L (ly + k) lx j
                have h3 := Nat.mul_le_mul (show k ≤ 81 by omega) hD81
                rw [List.length_append] at hm
                omega
              have HLJ := hid (HL.out.ext HW2.out)
              clear hown he hm
              by_cases hjt : j < D
              · have hje : lx + (j : Int) ≤ hx := by omega
                have hin := place_range L ⟨lx + j, ly + k⟩
                rcases hin with hin | hin
                · have HR := hid (show rowF L (ly + k) lx (j + 1) = rowF L (ly + k) lx j from rowF_no (by unfold inF; rw [hin]; rfl))
                  go_wp2_with (go_at_call 62; refine (gives_v hin (place_any _ _ _ L ⟨lx + j, ly + k⟩ _ (HLJ.out.ext (by repeat (first | exact Ext.refl _ | refine Ext.alloc ?_ _ | assumption | refine Ext.over ?_ _ | refine Ext.drew ?_ | refine Ext.drewN ?_ _))) rfl (by omega))).over.mono ?_; rintro e w' ⟨rfl, xw, rfl⟩)
                  go_roundw
                  case rel => exact ⟨j + 1, A', m, c', by omega, by go_num, rfl, by rw [HR.out]; exact own_ext HO.out (by repeat (first | exact Ext.refl _ | refine Ext.alloc ?_ _ | assumption | refine Ext.over ?_ _ | refine Ext.drew ?_ | refine Ext.drewN ?_ _)), HXI.out.trans (by repeat (first | exact Ext.refl _ | refine Ext.alloc ?_ _ | assumption | refine Ext.over ?_ _ | refine Ext.drew ?_ | refine Ext.drewN ?_ _))⟩
                  case measure => simp [intOf]; omega
                · have HR := hid (show rowF L (ly + k) lx (j + 1) = rowF L (ly + k) lx j ++ [⟨lx + j, ly + k⟩] from rowF_yes (by unfold inF; rcases hin with h | h <;> (rw [h]; rfl)))
                  have HO2 := hid (show (flo L lx ly D k ++ rowF L (ly + k) lx (j + 1)).flatMap T2.v = (flo L lx ly D k ++ rowF L (ly + k) lx j).flatMap T2.v ++ [.int .i64 (lx + j), .int .i64 (ly + k)] by rw [HR.out, ← List.append_assoc, List.flatMap_append]; rfl)
                  have hown := HO.out
                  generalize (flo L lx ly D k ++ rowF L (ly + k) lx j).flatMap T2.v = cs at hown HO2
                  have HO3 := hid hown
                  clear hown HO
                  rcases hin with hin | hin
                  all_goals
                    go_wp2_with (first | (go_at_call 62; refine (gives_v hin (place_any _ _ _ L ⟨lx + j, ly + k⟩ _ (HLJ.out.ext (by repeat (first | exact Ext.refl _ | refine Ext.alloc ?_ _ | assumption | refine Ext.over ?_ _ | refine Ext.drew ?_ | refine Ext.drewN ?_ _))) rfl (by omega))).over.mono ?_; rintro e w' ⟨rfl, xw, rfl⟩) | (at_builtin; refine wpList_push wo rfl (.tmp 74) (.tmp 76) 31 rfl 35 Try.underlying31 info_Point rfl (by decide) _ m _ rfl wr HO3.out (by repeat (first | exact Ext.refl _ | refine Ext.alloc ?_ _ | assumption | refine Ext.over ?_ _ | refine Ext.drew ?_ | refine Ext.drewN ?_ _)) (Ext.trans HXI.out (by repeat (first | exact Ext.refl _ | refine Ext.alloc ?_ _ | assumption | refine Ext.over ?_ _ | refine Ext.drew ?_ | refine Ext.drewN ?_ _))) _ 1 1 [.int .i64 (lx + j), .int .i64 (ly + k)] rfl rfl (lit_cells _ _ (by first | (simp; done) | simp [ovr_size]) _ _) (by intro u hu; simp at hu; rcases hu with rfl | rfl <;> rfl) (by omega) (by decide) ?_))
                    intro A5 c5 w5 hown5 he5
                    have HO5 := hid (show w5.ownsRow wo.heap.size 35 2 (.slice A5 (m + 1) c5) (m + 1) ((flo L lx ly D k ++ rowF L (ly + k) lx (j + 1)).flatMap T2.v) by rw [HO2.out]; exact hown5)
                    have HE5 := hid he5
                    clear hown5 he5
                    go_wp2_with fail
                    go_roundw
                    case rel => exact ⟨j + 1, A5, m + 1, c5, by omega, by go_num, rfl, own_ext HO5.out (by repeat (first | exact Ext.refl _ | refine Ext.alloc ?_ _ | assumption | refine Ext.over ?_ _ | refine Ext.drew ?_ | refine Ext.drewN ?_ _)), HE5.out.trans (by repeat (first | exact Ext.refl _ | refine Ext.alloc ?_ _ | assumption | refine Ext.over ?_ _ | refine Ext.drew ?_ | refine Ext.drewN ?_ _))⟩
                    case measure => simp [intOf]; omega
              · obtain rfl : j = D := by omega
                have hje : ¬ lx + (j : Int) ≤ hx := by omega
                have HFL := hid (show flo L lx ly j (k + 1) = flo L lx ly j k ++ rowF L (ly + k) lx j from rfl)
                go_wp2_with fail
                go_roundw
                case rel => exact ⟨k + 1, A', m, c', by omega, by go_num, rfl, by rw [HFL.out]; exact HO.out, HXI.out⟩
                case measure => simp [intOf]; omega
          · obtain rfl : k = H := by omega
            have hle : ¬ ly + (k : Int) ≤ hy := by omega
            go_wp2_with fail
            refine bodyPost_ret (v := .slice A' m c') (by first | rfl | (simp [results, Try.results48, go_sem]; done)) rfl ?_
            exact ⟨A', m, c', rfl, by rw [HF.out]; exact own_base HO.out HE.out.size, HW1.out⟩
end Go.Proofs.Ytkifapcegiajiaa
