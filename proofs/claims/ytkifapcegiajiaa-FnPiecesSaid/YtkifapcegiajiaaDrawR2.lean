/- Walks: a room is drawn. Conditions: sizes. -/
import Derived.Test.YtkifapcegiajiaaDrawR1
import Derived.Test.YtkifapcegiajiaaHer6
import Derived.Test.YtkifapcegiajiaaHer4
import Derived.Test.YtkifapcegiajiaaPoint
import Derived.Test.YtkifapcegiajiaaRoomS
namespace Go.Proofs.Ytkifapcegiajiaa
open Go.RowKit
set_option linter.unusedVariables false

def Box (w : World) (b : Nat) (v : Value) : Prop := w.cell? ⟨b, 0, none⟩ = some v ∧ w.frozen? ⟨b, 0, none⟩ = false
theorem Box.lt {w : World} {b : Nat} {v : Value} (h : Box w b v) : b < w.heap.size := World.block_lt_of_cell? w _ h.1
theorem Box.blk {w w' : World} {b : Nat} {v : Value} (h : Box w b v) (hb : w'.heap[b]? = w.heap[b]?) : Box w' b v := ⟨(World.cell?_of_block (a := ⟨b, 0, none⟩) hb).trans h.1, (World.frozen?_of_block (a := ⟨b, 0, none⟩) hb).trans h.2⟩
theorem Box.ext {w w' : World} {b : Nat} {v : Value} (h : Box w b v) (he : Ext w w') : Box w' b v := h.blk (he.block _ h.lt)
theorem Box.grown {w w' : World} {b : Nat} {v : Value} (h : Box w b v) {row : Option Nat} (hg : w.grownBy w' row) (hne : row ≠ some b) : Box w' b v := h.blk (hg.block _ h.lt (fun e => hne e.symm))
theorem Box.put {w : World} {b : Nat} {v : Value} (h : Box w b v) (u : Value) : Box (w.setCell ⟨b, 0, none⟩ u) b u := by
  have hc := h.1
  have hf := h.2
  exact ⟨by go_simp, (froz_set _).trans hf⟩
theorem flat_set0 : ∀ {L : List T2} {i : Nat} (x : Int), i < L.length → (L.flatMap T2.v).set (i * 2) (.int .i64 x) = (L.set i ⟨x, (at2 L i).b⟩).flatMap T2.v
  | a :: l, 0, x, _ => rfl
  | a :: l, i + 1, x, h => by
    have ih := flat_set0 (L := l) (i := i) x (by simpa using h)
    have e : at2 (a :: l) (i + 1) = at2 l i := rfl
    rw [e, List.set_cons_succ, List.flatMap_cons, List.flatMap_cons, ← ih, show (i + 1) * 2 = i * 2 + 1 + 1 by omega]
    rfl
theorem flat_set1 : ∀ {L : List T2} {i : Nat} (x : Int), i < L.length → (L.flatMap T2.v).set (i * 2 + 1) (.int .i64 x) = (L.set i ⟨(at2 L i).a, x⟩).flatMap T2.v
  | a :: l, 0, x, _ => rfl
  | a :: l, i + 1, x, h => by
    have ih := flat_set1 (L := l) (i := i) x (by simpa using h)
    have e : at2 (a :: l) (i + 1) = at2 l i := rfl
    rw [e, List.set_cons_succ, List.flatMap_cons, List.flatMap_cons, ← ih, show (i + 1) * 2 + 1 = (i * 2 + 1) + 1 + 1 by omega]
    rfl
theorem at2_set {L : List T2} {i j : Nat} {p : T2} (hi : i < L.length) : at2 (L.set i p) j = if i = j then p else at2 L j := by
  unfold at2
  rw [List.getD_eq_getElem?_getD, List.getElem?_set, List.getD_eq_getElem?_getD]
  split
  · rename_i e; subst e; simp
  · rfl
/-- What the draw of a room keeps: the cursor, the result's box, the room's box and row. -/
structure Rm (w0 w : World) (g b2 br : Nat) (A : Option Addr) (n c : Nat) (L : List T2) : Prop where
  cur : Cur w g
  grow : w0.grownBy w (some g)
  low : g < w0.heap.size
  le2 : w0.heap.size ≤ b2
  ler : w0.heap.size ≤ br
  ne : b2 ≠ br
  x2 : Box w b2 (.slice none 0 0)
  xr : Box w br (.slice A n c)
  own : w.ownsRow w0.heap.size 35 2 (.slice A n c) n (L.flatMap T2.v)
  far : ∀ j, (Value.slice A n c).ownBlock = some j → j ≠ b2 ∧ j ≠ br
section
variable {w0 w w' : World} {g b2 br : Nat} {A : Option Addr} {n c : Nat} {L : List T2}
theorem Rm.ext (s : Rm w0 w g b2 br A n c L) (he : Ext w w') : Rm w0 w' g b2 br A n c L :=
  ⟨s.cur.ext he, grown_then s.grow (ext_grown he (some g)) (.inl rfl), s.low, s.le2, s.ler, s.ne, s.x2.ext he, s.xr.ext he, own_ext s.own he, s.far⟩
theorem Rm.drawn (s : Rm w0 w g b2 br A n c L) (hd : Drawn w w' g) : Rm w0 w' g b2 br A n c L :=
  have h1 := s.low
  have h2 := s.le2
  have h3 := s.ler
  ⟨hd.2, grown_then s.grow hd.1 (.inl rfl), s.low, s.le2, s.ler, s.ne, s.x2.grown hd.1 (by intro e; injection e with e; omega), s.xr.grown hd.1 (by intro e; injection e with e; omega), hd.own s.own s.low, s.far⟩
theorem Rm.other (s : Rm w0 w g b2 br A n c L) {k : Nat} (hg : w.grownBy w' (some k)) (h0 : w0.heap.size ≤ k) (h2 : k ≠ b2) (hr : k ≠ br) (ho : (Value.slice A n c).ownBlock ≠ some k) : Rm w0 w' g b2 br A n c L :=
  have h1 := s.low
  ⟨s.cur.kept hg (fun j hj => by injection hj with hj; omega), grown_then s.grow hg (.inr fun j hj => by injection hj with hj; omega), s.low, s.le2, s.ler, s.ne, s.x2.grown hg (by intro e; injection e with e; exact h2 e), s.xr.grown hg (by intro e; injection e with e; exact hr e), s.own.kept hg (.inr fun e => ho e), s.far⟩
theorem Rm.swap (s : Rm w0 w g b2 br A n c L) {A' : Option Addr} {c' : Nat} {L' : List T2} (ho : w.ownsRow w0.heap.size 35 2 (.slice A' n c') n (L'.flatMap T2.v)) (hf : ∀ j, (Value.slice A' n c').ownBlock = some j → j ≠ b2 ∧ j ≠ br) : Rm w0 (w.setCell ⟨br, 0, none⟩ (.slice A' n c')) g b2 br A' n c' L' := by
  have h1 := s.low
  have h3 := s.ler
  have hg : w.grownBy (w.setCell ⟨br, 0, none⟩ (.slice A' n c')) (some br) := only_setCell (g := br) (p := ⟨br, 0, none⟩) (World.grownBy.refl _ _) (.inl rfl) _
  exact ⟨s.cur.kept hg (fun j hj => by injection hj with hj; omega), grown_then s.grow hg (.inr fun j hj => by injection hj with hj; omega), s.low, s.le2, s.ler, s.ne, s.x2.grown hg (by intro e; injection e with e; exact s.ne e.symm), s.xr.put _, ho.kept hg (.inr fun e => (hf _ e).2 rfl), hf⟩
end
theorem RoomN.mono {m k : Int} {L : List T2} (h : RoomN m L) (hk : m ≤ k) : RoomN k L := ⟨h.1, fun j hj => by have := h.2 j hj; unfold near at *; omega⟩
theorem RoomN.len {m : Int} {L : List T2} (h : RoomN m L) : 3 ≤ L.length ∧ L.length ≤ 10 := ⟨(roomP_of h.1).lo, (roomP_of h.1).hi⟩
/-- What the last loop keeps: all but one box is as it was; the list so far; the point's box. -/
structure Pz (w8 w : World) (b8 bp : Nat) (B : Option Addr) (k d : Nat) (M : List T2) : Prop where
  grow : w8.grownBy w (some b8)
  box : Box w b8 (.slice B k d)
  own : w.ownsRow w8.heap.size 35 2 (.slice B k d) k (M.flatMap T2.v)
  le : w8.heap.size ≤ bp
  low : b8 < w8.heap.size
  far : (Value.slice B k d).ownBlock ≠ some bp
theorem Pz.put {w8 w : World} {b8 bp : Nat} {B : Option Addr} {k d : Nat} {M : List T2} (s : Pz w8 w b8 bp B k d M) (i : Nat) (u : Value) : Pz w8 (w.setCell ⟨bp, i, none⟩ u) b8 bp B k d M := by
  have h1 := s.le
  have h2 := s.low
  have hg : w.grownBy (w.setCell ⟨bp, i, none⟩ u) (some bp) := only_setCell (g := bp) (p := ⟨bp, i, none⟩) (World.grownBy.refl _ _) (.inl rfl) u
  exact ⟨grown_then s.grow hg (.inr fun j hj => by injection hj with hj; omega), s.box.grown hg (by intro e; injection e with e; omega), s.own.kept hg (.inr s.far), s.le, s.low, s.far⟩
theorem Pz.push {w8 w w' : World} {b8 bp : Nat} {B B' : Option Addr} {k d d' : Nat} {M M' : List T2} (s : Pz w8 w b8 bp B k d M) (ho : w'.ownsRow w8.heap.size 35 2 (.slice B' (k + 1) d') (k + 1) (M'.flatMap T2.v)) (hg : w.grownBy w' (Value.slice B k d).ownBlock) :
    Box w' b8 (.slice B k d) ∧ w8.grownBy (w'.setCell ⟨b8, 0, none⟩ (.slice B' (k + 1) d')) (some b8) ∧ Box (w'.setCell ⟨b8, 0, none⟩ (.slice B' (k + 1) d')) b8 (.slice B' (k + 1) d') ∧ (w'.setCell ⟨b8, 0, none⟩ (.slice B' (k + 1) d')).ownsRow w8.heap.size 35 2 (.slice B' (k + 1) d') (k + 1) (M'.flatMap T2.v) := by
  have h2 := s.low
  have hl := s.own.lt
  have hb := s.box.grown hg (fun e => by have := hl _ e; omega)
  have hg2 : w'.grownBy (w'.setCell ⟨b8, 0, none⟩ (.slice B' (k + 1) d')) (some b8) := only_setCell (g := b8) (p := ⟨b8, 0, none⟩) (World.grownBy.refl _ _) (.inl rfl) _
  exact ⟨hb, grown_then (grown_then s.grow hg (.inr fun j hj => (hl j hj).1)) hg2 (.inl rfl), hb.put _, ho.kept hg2 (.inr fun e => by have := (ho.lt _ e).1; omega)⟩
set_option maxRecDepth 100000 in
set_option maxHeartbeats 3200000 in
theorem l04Room_any (g : Nat) (w : World) (hc : Cur w g) : Calls Try.prog 43 #[.pointer (some ⟨g, 0, none⟩)] w fun e w' => ∃ (A : Option Addr) (n c : Nat) (L : List T2), e = .returned (.agg #[.slice A n c]) ∧ L.length = n ∧ RoomN 18 L ∧ w'.ownsRow w.heap.size 35 2 (.slice A n c) n (L.flatMap T2.v) ∧ Drawn w w' g := by
  have hlow := hc.lt
  have HC := hid hc
  clear hc
  go_enter Try.func43, Try.ntmps43
  go_wp2_with fail
  have HX2 := hid (show Box (w.alloc (.cells #[.slice none 0 0] 33)) w.heap.size (.slice none 0 0) from ⟨by go_simp, by go_simp⟩)
  refine (l01Below_any g 8 _ (HC.out.ext (by repeat (first | exact Ext.refl _ | refine Ext.alloc ?_ _ | assumption | refine Ext.over ?_ _ | refine Ext.drew ?_ | refine Ext.drewN ?_ _))) (by omega)).mono ?_
  rintro _ w1 ⟨v, rfl, v0, v1, hd⟩
  have HX2 := hid (HX2.out.grown hd.1 (by intro e; injection e with e; omega))
  have HD1 := hid (Drawn.of_ext (show Ext w _ by repeat (first | exact Ext.refl _ | refine Ext.alloc ?_ _ | assumption | refine Ext.over ?_ _ | refine Ext.drew ?_ | refine Ext.drewN ?_ _)) hd)
  clear hd
  go_wp2_with fail
  refine (l04Shape_any v (by omega) w1).mono ?_
  rintro _ w2 ⟨A, n, L, rfl, hll, hrm, ho, he⟩
  have HRM := hid hrm
  have hb := hrm.len
  rw [hll] at hb
  have HLL := hid hll
  obtain ⟨w3, hw3⟩ : ∃ w3, w3 = w2.alloc (.cells #[.slice A n n] 33) := ⟨_, rfl⟩
  have e3 : Ext w2 w3 := by rw [hw3]; repeat (first | exact Ext.refl _ | refine Ext.alloc ?_ _ | assumption | refine Ext.over ?_ _ | refine Ext.drew ?_ | refine Ext.drewN ?_ _)
  have hs1 : w.heap.size < w1.heap.size := HX2.out.lt
  have hs2 := he.size
  have S := hid (show Rm w w3 g w.heap.size w2.heap.size A n n L from ⟨(HD1.out.2.ext he).ext e3, grown_then (grown_then HD1.out.1 (ext_grown he (some g)) (.inl rfl)) (ext_grown e3 (some g)) (.inl rfl), hlow, Nat.le_refl _, by omega, by omega, (HX2.out.ext he).ext e3, ⟨by rw [hw3]; go_simp, by rw [hw3]; go_simp⟩, own_ext (own_base ho (by omega)) e3, fun j hj => by
    have := ho.lt j hj
    omega⟩)
  clear HD1 HX2 ho he hrm hll v0 v1
  go_wp2_with fail
  rw [← hw3]
  clear hw3 e3
  generalize w2.heap.size = br at S ⊢
  have hxr := S.out.xr.1
  go_wp2_with fail
  refine (l01Below_any g 4 w3 S.out.cur (by omega)).mono ?_
  rintro _ w4 ⟨k0, rfl, v0, v1, hd⟩
  have S4 := hid (S.out.drawn hd)
  obtain ⟨k0, rfl⟩ : ∃ q : Nat, k0 = q := ⟨k0.toNat, by omega⟩
  have hk0 : k0 ≤ 3 := by omega
  have HRM := hid (HRM.out.mono (show (10 : Int) ≤ 16 - 2 * (k0 : Int) by omega))
  clear hd v0 v1 S hxr hs1 hs2
  go_wp2_with fail
  go_loopw [5, 6] (fun kv iv wr => ∃ (k : Nat) (A : Option Addr) (c : Nat) (L : List T2), k ≤ 3 ∧ kv = .int .i64 ↑k ∧ L.length = n ∧ RoomN (16 - 2 * (k : Int)) L ∧ Rm w wr g w.heap.size br A n c L) (fun kv _ _ => (intOf kv).toNat)
  case atStart => exact ⟨k0, A, n, L, hk0, rfl, HLL.out, HRM.out, S4.out⟩
  case round =>
    clear S4 HRM HLL
    obtain ⟨k, A, c, L, hk, rfl, hll, hrm, hs⟩ := hrel
    have HRM := hid hrm
    have HLL := hid hll
    have S := hid hs
    clear hll hrm hs
    by_cases hlt : 0 < k
    · have hkt : (0 : Int) < k := by omega
      go_wp2_with fail
      refine (l01Below_any g n wr S.out.cur (by omega)).mono ?_
      rintro _ w5 ⟨i, rfl, v0, v1, hd⟩
      obtain ⟨i, rfl⟩ : ∃ q : Nat, i = q := ⟨i.toNat, by omega⟩
      have hin : i < n := by omega
      have hin' : (i : Int) < n := by omega
      have S5 := hid (S.out.drawn hd)
      have hxr := S5.out.xr.1
      clear hd v0 v1 S
      go_wp2_with fail
      refine (l04Copy_any A n c L w5 (Row.of_own S5.out.own) HLL.out (by omega) (own_none S5.out.own)).mono ?_
      rintro _ w6 ⟨X, d, rfl, ho, he⟩
      obtain ⟨gx, hX⟩ := own_addr ho (by omega)
      subst hX
      obtain ⟨w7, hw7⟩ : ∃ w7, w7 = w6.alloc (.cells #[.slice (some ⟨gx, 0, none⟩) n d] 33) := ⟨_, rfl⟩
      have e7 : Ext w6 w7 := by rw [hw7]; repeat (first | exact Ext.refl _ | refine Ext.alloc ?_ _ | assumption | refine Ext.over ?_ _ | refine Ext.drew ?_ | refine Ext.drewN ?_ _)
      have hgx := ho.lt gx rfl
      have h5r := S5.out.xr.lt
      have h52 := S5.out.x2.lt
      have h5A := S5.out.own.lt
      have hgr := S5.out.grow.size
      have S7 := hid ((S5.out.ext he).ext e7)
      have HO7 := hid (own_ext ho e7)
      have HXB := hid (show Box w7 w6.heap.size (.slice (some ⟨gx, 0, none⟩) n d) from ⟨by rw [hw7]; go_simp, by rw [hw7]; go_simp⟩)
      obtain ⟨bx, hbx⟩ : ∃ bx, bx = w6.heap.size := ⟨_, rfl⟩
      have h6 := he.size
      have HNE := hid (show w.heap.size ≤ gx ∧ w.heap.size ≤ bx ∧ gx ≠ br ∧ gx ≠ w.heap.size ∧ bx ≠ br ∧ bx ≠ w.heap.size ∧ gx ≠ bx ∧ (Value.slice A n c).ownBlock ≠ some gx ∧ (Value.slice A n c).ownBlock ≠ some bx ∧ gx ≠ g ∧ bx ≠ g by
        have hl := S5.out.low
        refine ⟨by omega, by omega, by omega, by omega, by omega, by omega, by omega, fun e => ?_, fun e => ?_, by omega, by omega⟩
        · have := h5A _ e; omega
        · have := h5A _ e; omega)
      have HLW := hid (show g < w5.heap.size by have := S5.out.low; omega)
      have SZ5 := hid (show w.heap.size ≤ w5.heap.size from hgr)
      clear S5 ho he hgx h5r h52 h5A hgr h6 hxr
      go_wp2_with fail
      rw [← hw7]
      rw [← hbx] at HXB ⊢
      clear hw7 e7 hbx
      have HLOW5 := hid HLW.out
      have HOAL := hid (show L.length = n from HLL.out)
      have HOAN := hid (show ∀ j, j < n → near (16 - 2 * (k : Int) + 0) (at2 L j) from fun j hj => by rw [Int.add_zero]; exact HRM.out.2 j (by rw [HLL.out]; exact hj))
      have HOA := hid HO7.out
      have XBA := hid HXB.out
      have SA := hid S7.out
      clear HO7 HXB S7
      have hxb := XBA.out.1
      have hLi : i < L.length := by rw [HOAL.out]; exact hin
      obtain ⟨bk, off, hB, hc⟩ := (Row.of_own HOA.out).t2 hLi
      cases hB
      obtain ⟨c1, c2⟩ := hc i hLi
      rw [Nat.zero_add] at c1 c2
      have hbg : ¬ bx = g := HNE.out.2.2.2.2.2.2.2.2.2.2
      have hgg : ¬ gx = g := HNE.out.2.2.2.2.2.2.2.2.2.1
      have hnr := HOAN.out i hin
      have hin2 : i < n := hin
      refine wp_region_e (LaterG g g) (laterG_steady _ _) [.q 0, .q 1, .q 2, .q 3, .q 4, .q 5, .q 6, .q 7, .q 8, .q 9, .u 10, .u 11, .u 12, .u 13, .u 14] 15 _ rfl (by kernel_rfl) (by kernel_rfl) (fun w8 e8 => ?_)
      have e8' : Ext w7 w8 := Ext.trans (by repeat (first | exact Ext.refl _ | refine Ext.alloc ?_ _ | assumption | refine Ext.over ?_ _ | refine Ext.drew ?_ | refine Ext.drewN ?_ _)) e8
      have T8 := hid (SA.out.ext e8')
      have HP8 := hid (own_ext HOA.out e8')
      have HB8 := hid (XBA.out.ext e8')
      have c1 := old_cell e8' c1
      have c2 := old_cell e8' c2
      have hxb := HB8.out.1
      clear e8 e8' SA XBA hc
      simp only [pick, List.getElem?_cons_succ, List.getElem?_cons_zero]
      repeat (refine wpE_q (fun K hK => ?_); go_simp; refine hK _ ?_; clear hK K)
      refine wpE_u ?_
      refine stepH_of (fun K hK => ?_)
      go_simp
      refine (l01Below_any g 3 w8 T8.out.cur (by omega)).mono ?_
      rintro _ w9 ⟨v, rfl, v0, v1, hd⟩
      refine ⟨_, rfl, hK _ _ (laterG_of (Kept.grown hd.1)) ?_⟩; clear hK K
      have T9 := hid (T8.out.drawn hd)
      have HP9 := hid (hd.own HP8.out HLOW5.out)
      have HB9 := hid (HB8.out.grown hd.1 (by intro e; injection e with e; exact hbg e.symm))
      clear hd T8 HP8 HB8 c1 c2 hxb
      have hxb := HB9.out.1
      ((first | refine wpE_u ?_ | skip); refine stepH_of (fun K hK => ?_); go_simp; refine hK _ _ (laterG_of (Kept.refl _ _ _)) ?_; clear hK K)
      ((first | refine wpE_u ?_ | skip); refine stepH_of (fun K hK => ?_); go_simp; refine hK _ _ (laterG_of (Kept.refl _ _ _)) ?_; clear hK K)
      ((first | refine wpE_u ?_ | skip); refine stepH_of (fun K hK => ?_); go_simp; refine hK _ _ (laterG_of (Kept.refl _ _ _)) ?_; clear hK K)
      ((first | refine wpE_u ?_ | skip); refine stepH_of (fun K hK => ?_); go_simp; refine hK _ _ (laterG_of (Kept.refl _ _ _)) ?_; clear hK K)
      obtain ⟨u0, o0, f0⟩ := own_some HP9.out (i * 2) (by omega)
      refine wpE_nil (fun K hK => ?_)
      go_simp
      refine hK _ _ ?_; clear hK K
      have hz : IntKind.i64.wrap (IntKind.i64.wrap ((at2 L i).a + v) - 1) = (at2 L i).a + v - 1 := by
        have := hnr; unfold near at this
        rw [IntWalk.i64_in ((at2 L i).a + v) (by omega), IntWalk.i64_in _ (by omega)]
      rw [hz]
      have hst := HP9.out.stored (i * 2) (.int .i64 ((at2 L i).a + v - 1))
      obtain ⟨w10, hw10⟩ : ∃ w10, w10 = w9.setCell ⟨gx, i * 2, none⟩ (.int .i64 ((at2 L i).a + v - 1)) := ⟨_, rfl⟩
      rw [← hw10] at hst ⊢
      have SB := hid (T9.out.other hst.2 HNE.out.1 HNE.out.2.2.2.1 HNE.out.2.2.1 HNE.out.2.2.2.2.2.2.2.1)
      obtain ⟨LB, hLB⟩ : ∃ l, l = L.set i ⟨(at2 L i).a + v - 1, (at2 L i).b⟩ := ⟨_, rfl⟩
      have HOB := hid (show w10.ownsRow w5.heap.size 35 2 (.slice (some ⟨gx, 0, none⟩) n d) n (LB.flatMap T2.v) by rw [hLB, ← flat_set0 _ hLi]; exact hst.1)
      have HOBL := hid (show LB.length = n by rw [hLB, List.length_set]; exact HOAL.out)
      have HOBN := hid (show ∀ j, j < n → near (16 - 2 * (k : Int) + 1) (at2 LB j) from fun j hj => by
        rw [hLB, at2_set hLi]
        have hx := HOAN.out j hj
        unfold near at hx hnr ⊢
        split
        · rename_i e; subst e; dsimp only; omega
        · omega)
      have XBB := hid (HB9.out.grown hst.2 (by intro e; injection e with e; exact HNE.out.2.2.2.2.2.2.1 e))
      clear hst hw10 hz T9 HP9 HB9 f0 o0 hLB hnr v0 v1 HOA HOAL HOAN hxb hLi
      have hxb := XBB.out.1
      go_wp2_with fail
      rename World => w7b
      have hxb := XBB.out.1
      have hLi : i < LB.length := by rw [HOBL.out]; exact hin
      obtain ⟨bk, off, hB, hc⟩ := (Row.of_own HOB.out).t2 hLi
      cases hB
      obtain ⟨c1, c2⟩ := hc i hLi
      rw [Nat.zero_add] at c1 c2
      have hbg : ¬ bx = g := HNE.out.2.2.2.2.2.2.2.2.2.2
      have hgg : ¬ gx = g := HNE.out.2.2.2.2.2.2.2.2.2.1
      have hnr := HOBN.out i hin
      have hin2 : i < n := hin
      refine wp_region_e (LaterG g g) (laterG_steady _ _) [.q 0, .q 1, .q 2, .q 3, .q 4, .q 5, .q 6, .q 7, .q 8, .q 9, .u 10, .u 11, .u 12, .u 13, .u 14] 15 _ rfl (by kernel_rfl) (by kernel_rfl) (fun w8 e8 => ?_)
      have e8' : Ext w7b w8 := Ext.trans (by repeat (first | exact Ext.refl _ | refine Ext.alloc ?_ _ | assumption | refine Ext.over ?_ _ | refine Ext.drew ?_ | refine Ext.drewN ?_ _)) e8
      have T8 := hid (SB.out.ext e8')
      have HP8 := hid (own_ext HOB.out e8')
      have HB8 := hid (XBB.out.ext e8')
      have c1 := old_cell e8' c1
      have c2 := old_cell e8' c2
      have hxb := HB8.out.1
      clear e8 e8' SB XBB hc
      simp only [pick, List.getElem?_cons_succ, List.getElem?_cons_zero]
      repeat (refine wpE_q (fun K hK => ?_); go_simp; refine hK _ ?_; clear hK K)
      refine wpE_u ?_
      refine stepH_of (fun K hK => ?_)
      go_simp
      refine (l01Below_any g 3 w8 T8.out.cur (by omega)).mono ?_
      rintro _ w9 ⟨v, rfl, v0, v1, hd⟩
      refine ⟨_, rfl, hK _ _ (laterG_of (Kept.grown hd.1)) ?_⟩; clear hK K
      have T9 := hid (T8.out.drawn hd)
      have HP9 := hid (hd.own HP8.out HLOW5.out)
      have HB9 := hid (HB8.out.grown hd.1 (by intro e; injection e with e; exact hbg e.symm))
      clear hd T8 HP8 HB8 c1 c2 hxb
      have hxb := HB9.out.1
      ((first | refine wpE_u ?_ | skip); refine stepH_of (fun K hK => ?_); go_simp; refine hK _ _ (laterG_of (Kept.refl _ _ _)) ?_; clear hK K)
      ((first | refine wpE_u ?_ | skip); refine stepH_of (fun K hK => ?_); go_simp; refine hK _ _ (laterG_of (Kept.refl _ _ _)) ?_; clear hK K)
      ((first | refine wpE_u ?_ | skip); refine stepH_of (fun K hK => ?_); go_simp; refine hK _ _ (laterG_of (Kept.refl _ _ _)) ?_; clear hK K)
      ((first | refine wpE_u ?_ | skip); refine stepH_of (fun K hK => ?_); go_simp; refine hK _ _ (laterG_of (Kept.refl _ _ _)) ?_; clear hK K)
      obtain ⟨u0, o0, f0⟩ := own_some HP9.out (i * 2 + 1) (by omega)
      refine wpE_nil (fun K hK => ?_)
      go_simp
      refine hK _ _ ?_; clear hK K
      have hz : IntKind.i64.wrap (IntKind.i64.wrap ((at2 LB i).b + v) - 1) = (at2 LB i).b + v - 1 := by
        have := hnr; unfold near at this
        rw [IntWalk.i64_in ((at2 LB i).b + v) (by omega), IntWalk.i64_in _ (by omega)]
      rw [hz]
      have hst := HP9.out.stored (i * 2 + 1) (.int .i64 ((at2 LB i).b + v - 1))
      obtain ⟨w10, hw10⟩ : ∃ w10, w10 = w9.setCell ⟨gx, i * 2 + 1, none⟩ (.int .i64 ((at2 LB i).b + v - 1)) := ⟨_, rfl⟩
      rw [← hw10] at hst ⊢
      have SC := hid (T9.out.other hst.2 HNE.out.1 HNE.out.2.2.2.1 HNE.out.2.2.1 HNE.out.2.2.2.2.2.2.2.1)
      obtain ⟨LC, hLC⟩ : ∃ l, l = LB.set i ⟨(at2 LB i).a, (at2 LB i).b + v - 1⟩ := ⟨_, rfl⟩
      have HOC := hid (show w10.ownsRow w5.heap.size 35 2 (.slice (some ⟨gx, 0, none⟩) n d) n (LC.flatMap T2.v) by rw [hLC, ← flat_set1 _ hLi]; exact hst.1)
      have HOCL := hid (show LC.length = n by rw [hLC, List.length_set]; exact HOBL.out)
      have HOCN := hid (show ∀ j, j < n → near (16 - 2 * (k : Int) + 2) (at2 LC j) from fun j hj => by
        rw [hLC, at2_set hLi]
        have hx := HOBN.out j hj
        unfold near at hx hnr ⊢
        split
        · rename_i e; subst e; dsimp only; omega
        · omega)
      have XBC := hid (HB9.out.grown hst.2 (by intro e; injection e with e; exact HNE.out.2.2.2.2.2.2.1 e))
      clear hst hw10 hz T9 HP9 HB9 f0 o0 hLC hnr v0 v1 HOB HOBL HOBN hxb hLi
      have hxb := XBC.out.1
      go_wp2_with fail
      rename World => w7c
      have hkk : ((k : Int) - 1) = ((k - 1 : Nat) : Int) := by omega
      cases hr2 : roomS LC
      · refine (gives_b hr2 (sRoomOk_any (some ⟨gx, 0, none⟩) n d LC _ ((Row.of_own HOC.out).ext (by repeat (first | exact Ext.refl _ | refine Ext.alloc ?_ _ | assumption | refine Ext.over ?_ _ | refine Ext.drew ?_ | refine Ext.drewN ?_ _))) HOCL.out (by omega))).mono ?_
        rintro _ w12 ⟨rfl, e12⟩
        have SD := hid (SC.out.ext e12)
        clear e12
        go_wp2_with fail
        go_roundw
        case rel => exact ⟨k - 1, A, c, L, by omega, by first | go_num | (rw [hkk]), HLL.out, HRM.out.mono (by omega), SD.out.ext (by repeat (first | exact Ext.refl _ | refine Ext.alloc ?_ _ | assumption | refine Ext.over ?_ _ | refine Ext.drew ?_ | refine Ext.drewN ?_ _))⟩
        case measure => simp [intOf]; omega
      · have HR2 := hid (show RoomN (16 - 2 * ((k - 1 : Nat) : Int)) LC from ⟨hr2, fun j hj => by have := HOCN.out j (by rw [← HOCL.out]; exact hj); unfold near at this ⊢; omega⟩)
        refine (gives_b hr2 (sRoomOk_any (some ⟨gx, 0, none⟩) n d LC _ ((Row.of_own HOC.out).ext (by repeat (first | exact Ext.refl _ | refine Ext.alloc ?_ _ | assumption | refine Ext.over ?_ _ | refine Ext.drew ?_ | refine Ext.drewN ?_ _))) HOCL.out (by omega))).mono ?_
        rintro _ w12 ⟨rfl, e12⟩
        have SD := hid (SC.out.ext e12)
        have XBD := hid (XBC.out.ext e12)
        have HOD := hid (own_ext HOC.out e12)
        have hxb := XBD.out.1
        have hxr := SD.out.xr.1
        have hfr := SD.out.xr.2
        clear e12 SC XBC HOC
        go_wp2_with fail
        have SE := hid (SD.out.swap (own_base HOD.out SZ5.out) (fun j hj => by
          have hj' : gx = j := by injection hj
          rw [← hj']; exact ⟨HNE.out.2.2.2.1, HNE.out.2.2.1⟩))
        go_roundw
        case rel => exact ⟨k - 1, some ⟨gx, 0, none⟩, d, LC, by omega, by first | go_num | (rw [hkk]), HOCL.out, HR2.out, SE.out.ext (by repeat (first | exact Ext.refl _ | refine Ext.alloc ?_ _ | assumption | refine Ext.over ?_ _ | refine Ext.drew ?_ | refine Ext.drewN ?_ _))⟩
        case measure => simp [intOf]; omega
    · obtain rfl : k = 0 := by omega
      have HRM2 := hid (show RoomN 16 L from HRM.out.mono (by omega))
      have hn10 : n ≤ 10 := hb.2
      have hn3 : 3 ≤ n := hb.1
      go_wp2_with fail
      obtain ⟨w5, hw5⟩ : ∃ w5, w5 = wr.alloc (.cells #[.slice none 0 0] 33) := ⟨_, rfl⟩
      have e5 : Ext wr w5 := by rw [hw5]; repeat (first | exact Ext.refl _ | refine Ext.alloc ?_ _ | assumption | refine Ext.over ?_ _ | refine Ext.drew ?_ | refine Ext.drewN ?_ _)
      have S5 := hid (S.out.ext e5)
      have HB5 := hid (show Box w5 wr.heap.size (.slice none 0 0) from ⟨by rw [hw5]; go_simp, by rw [hw5]; go_simp⟩)
      have h1 := S.out.xr.lt
      have h2 := S.out.x2.lt
      have h3 := S.out.own.lt
      have h4 := S.out.grow.size
      have h5 := S.out.low
      have HNE := hid (show w.heap.size ≤ wr.heap.size ∧ wr.heap.size ≠ br ∧ wr.heap.size ≠ w.heap.size ∧ (Value.slice A n c).ownBlock ≠ some wr.heap.size ∧ wr.heap.size ≠ g from ⟨h4, by omega, by omega, fun e => by have := h3 _ e; omega, by omega⟩)
      rw [← hw5]
      clear hw5 e5 S h1 h2 h3 h4 h5 HRM
      generalize wr.heap.size = b8 at HB5 HNE ⊢
      refine (l01Below_any g 4 w5 S5.out.cur (by omega)).mono ?_
      rintro _ w6 ⟨t, rfl, t0, t1, hd⟩
      have S6 := hid (S5.out.drawn hd)
      have HB6 := hid (HB5.out.grown hd.1 (by intro e; injection e with e; exact HNE.out.2.2.2.2 e.symm))
      clear hd S5 HB5
      go_wp2_with fail
      refine (l01Below_any g n w6 S6.out.cur (by omega)).mono ?_
      rintro _ w7 ⟨f, rfl, v0, v1, hd⟩
      obtain ⟨f, rfl⟩ : ∃ q : Nat, f = q := ⟨f.toNat, by omega⟩
      have hfn : f < n := by omega
      have S7 := hid (S6.out.drawn hd)
      have HB7 := hid (HB6.out.grown hd.1 (by intro e; injection e with e; exact HNE.out.2.2.2.2 e.symm))
      clear hd S6 HB6 v0 v1
      go_wp2_with fail
      refine (l01Below_any g 5 w7 S7.out.cur (by omega)).mono ?_
      rintro _ w8 ⟨u, rfl, v0, v1, hd⟩
      have S8 := hid (S7.out.drawn hd)
      have HB8 := hid (HB7.out.grown hd.1 (by intro e; injection e with e; exact HNE.out.2.2.2.2 e.symm))
      clear hd S7 HB7
      obtain ⟨dx, hdx⟩ : ∃ dx, dx = u - 2 := ⟨_, rfl⟩
      have hwd : wrap64 (u - 2) = dx := by rw [hdx]; exact IntWalk.wrap64_in _ (by omega)
      have hdx2 : -2 ≤ dx ∧ dx ≤ 2 := by omega
      have hb8 := HB8.out.lt
      have HSP := hid (room_spun (f := f) (t := t) HRM2.out.1 (by rw [HLL.out]; exact hfn) hdx2 (fun k hk => HRM2.out.2 k hk))
      go_wp2_with fail
      rw [show u - 2 = dx from hdx.symm]
      clear hwd v0 v1 hdx
      go_loopw [12] (fun kv wz => ∃ (k : Nat) (B : Option Addr) (d : Nat), k ≤ n ∧ kv = .int .i64 ↑k ∧ w8.grownBy wz (some b8) ∧ Box wz b8 (.slice B k d) ∧ wz.ownsRow w8.heap.size 35 2 (.slice B k d) k (((spun L f t dx).take k).flatMap T2.v)) (fun kv _ => n - (intOf kv).toNat)
      case atStart => exact ⟨0, none, 0, by omega, rfl, World.grownBy.refl _ _, HB8.out, World.ownsRow_nil _ _ _ _⟩
      case round =>
        rename World => wz
        obtain ⟨k, B, d, hk, rfl, hg, hbx, hown⟩ := hrel
        have HG := hid hg
        have HBX := hid hbx
        have HO := hid hown
        have HA := hid (S8.out.own.kept hg (.inr fun e => HNE.out.2.2.2.1 e))
        have HXR := hid (S8.out.xr.grown hg (by intro e; injection e with e; exact HNE.out.2.1 e))
        have hxr := HXR.out.1
        have hb8z := HBX.out.lt
        clear hg hbx hown
        by_cases hlt : k < n
        · have hkt : (k : Int) < n := by omega
          obtain ⟨m, hm⟩ : ∃ m, m = (f + k) % n := ⟨_, rfl⟩
          have hmn : m < n := by rw [hm]; exact Nat.mod_lt _ (by omega)
          have hmt : (m : Int) < n := by omega
          have hwf : IntKind.i64.wrap ((f : Int) + k) = (f : Int) + k := IntWalk.i64_in _ (by omega)
          have hmod : ((f : Int) + k).tmod n = (m : Int) := by rw [Int.tmod_eq_emod_of_nonneg (by omega), hm, Int.natCast_emod]; rfl
          have hmod2 : ((f : Int) + k) % n = (m : Int) := by rw [hm, Int.natCast_emod]; rfl
          have hwm : IntKind.i64.wrap (m : Int) = (m : Int) := IntWalk.i64_in _ (by omega)
          have hnz : ¬ n = 0 := by omega
          have hnz2 : ¬ (n : Int) = 0 := by omega
          have hn0 : ((n : Int) == 0) = false := by rw [beq_eq_false_iff_ne]; omega
          obtain ⟨bk, off, hB, hc⟩ := (Row.of_own HA.out).t2 (i := m) (by rw [HLL.out]; exact hmn)
          obtain ⟨c1, c2⟩ := hc m (by rw [HLL.out]; exact hmn)
          have HSA := hid (show at2 (spun L f t dx) k = moveT t dx (at2 L m) by rw [spun_at (by rw [HLL.out]; exact hlt), HLL.out, hm]; rfl)
          have hnr := HRM2.out.2 m (by rw [HLL.out]; exact hmn)
          have hTK := hid (show (spun L f t dx).take (k + 1) = (spun L f t dx).take k ++ [at2 (spun L f t dx) k] by rw [List.take_add_one, List.getElem?_eq_getElem (by rw [spun_len, HLL.out]; exact hlt), Option.toList_some, at2_eq _ _ (by rw [spun_len, HLL.out]; exact hlt)])
          subst hB
          clear hc hm
          rw [HSA.out] at hTK
          generalize at2 L m = p at c1 c2 hTK hnr
          go_wp2_with fail
          refine wp_region_x [.q 0, .q 1, .q 2, .q 3, .q 4, .q 5, .q 6, .q 7, .q 8, .u 9, .u 10] (by kernel_rfl) (by kernel_rfl) (fun w9 e9 => ?_)
          have e9' : Ext wz w9 := Ext.trans (by repeat (first | exact Ext.refl _ | refine Ext.alloc ?_ _ | assumption | refine Ext.over ?_ _ | refine Ext.drew ?_ | refine Ext.drewN ?_ _)) e9
          have HG9 := hid (grown_then HG.out (ext_grown e9' (some b8)) (.inl rfl))
          have HB9 := hid (HBX.out.ext e9')
          have HO9 := hid (own_ext HO.out e9')
          have c1 := old_cell e9' c1
          have c2 := old_cell e9' c2
          have hxr := old_cell e9' hxr
          clear e9 e9' HG HBX HO HA HXR
          simp only [pick, List.getElem?_cons_succ, List.getElem?_cons_zero]
          repeat (refine wpZ_q (fun K hK => ?_); go_simp; refine hK _ ?_; clear hK K)
          refine wpZ_u ?_
          refine stepH_of (fun K hK => ?_)
          go_simp
          refine hK _ _ (Below.alloc (Below.refl _ _) (Nat.le_refl _) _) ?_; clear hK K
          refine wpZ_u ?_
          refine stepH_of (fun K hK => ?_)
          go_simp
          refine hK _ _ (below_again (Nat.le_refl _) _ _) ?_; clear hK K
          refine wpZ_nil ?_
          have hsz9 := HO9.out.lt
          have hb9 := HB9.out.lt
          obtain ⟨wp, hwp⟩ : ∃ wp, wp = w9.alloc (.cells #[.int .i64 p.a, .int .i64 p.b] 35) := ⟨_, rfl⟩
          have ep : Ext w9 wp := by rw [hwp]; repeat (first | exact Ext.refl _ | refine Ext.alloc ?_ _ | assumption | refine Ext.over ?_ _ | refine Ext.drew ?_ | refine Ext.drewN ?_ _)
          have p0 : wp.cell? ⟨w9.heap.size, 0, none⟩ = some (.int .i64 p.a) := by rw [hwp]; go_simp
          have p1 : wp.cell? ⟨w9.heap.size, 1, none⟩ = some (.int .i64 p.b) := by rw [hwp]; go_simp
          have q0 : wp.frozen? ⟨w9.heap.size, 0, none⟩ = false := by rw [hwp]; go_simp
          have q1 : wp.frozen? ⟨w9.heap.size, 1, none⟩ = false := by rw [hwp]; go_simp
          have HGP := hid (grown_then HG9.out (ext_grown ep (some b8)) (.inl rfl))
          have HBP := hid (HB9.out.ext ep)
          have HOP := hid (own_ext HO9.out ep)
          have HNP := hid (show w8.heap.size ≤ w9.heap.size ∧ b8 ≠ w9.heap.size ∧ (Value.slice B k d).ownBlock ≠ some w9.heap.size from ⟨HG9.out.size, by omega, fun e => by have := hsz9 _ e; omega⟩)
          rw [← hwp]
          generalize w9.heap.size = bp at *
          clear hwp ep HG9 HB9 HO9 hsz9 hb9 c1 c2 hxr
          have hxb := HBP.out.1
          have hfb := HBP.out.2
          have HPZ := hid (show Pz w8 wp b8 bp B k d ((spun L f t dx).take k) from ⟨HGP.out, HBP.out, HOP.out, HNP.out.1, hb8, HNP.out.2.2⟩)
          have hne8 : ¬ b8 = bp := HNP.out.2.1
          have hne9 : ¬ bp = b8 := fun e => hne8 e.symm
          have hk9 : k ≤ 10 := by omega
          unfold near at hnr
          by_cases ht1 : t = 1
          · subst ht1
            have HQ := hid (((HPZ.out.put 0 (.int .i64 (-p.b))).put 1 (.int .i64 (p.a))).put 0 (.int .i64 (-p.b + dx)))
            have hmv : moveT 1 dx p = ⟨-p.b + dx, p.a⟩ := by unfold moveT; rw [if_pos rfl]
            rw [hmv] at hTK
            have HTK := hid hTK
            clear hTK hmv HPZ
            go_wp2_with (at_builtin; refine wpList_pushG rfl (.tmp 111) (.tmp 113) 31 rfl 35 Try.underlying31 info_PointR rfl (by decide) w8.heap.size B k d (((spun L f 1 dx).take k).flatMap T2.v) rfl (((wp.setCell ⟨bp, 0, none⟩ (.int .i64 (-p.b))).setCell ⟨bp, 1, none⟩ (.int .i64 (p.a))).setCell ⟨bp, 0, none⟩ (.int .i64 (-p.b + dx))) HQ.out.own (by repeat (first | exact Ext.refl _ | refine Ext.alloc ?_ _ | assumption | refine Ext.over ?_ _ | refine Ext.drew ?_ | refine Ext.drewN ?_ _)) HQ.out.grow.size _ 1 1 [.int .i64 (-p.b + dx), .int .i64 (p.a)] rfl rfl (lit_cells _ _ (by first | (simp; done) | simp [ovr_size]) _ _) (by intro z hz; simp at hz; rcases hz with rfl | rfl <;> rfl) (by omega) (by decide) ?_)
            intro B2 d2 w10 hown hgr
            have HF := hid (HQ.out.push (B' := B2) (d' := d2) (M' := (spun L f 1 dx).take (k + 1)) (by rw [HTK.out, List.flatMap_append]; exact hown) hgr)
            have hxb := HF.out.1.1
            have hfb := HF.out.1.2
            clear hown hgr HQ
            go_wp2_with fail
            go_roundw
            case rel => exact ⟨k + 1, B2, d2, by omega, by go_num, HF.out.2.1, HF.out.2.2.1, HF.out.2.2.2⟩
            case measure => simp [intOf]; omega
          by_cases ht2 : t = 2
          · subst ht2
            have HQ := hid (((HPZ.out.put 0 (.int .i64 (-p.a))).put 1 (.int .i64 (-p.b))).put 0 (.int .i64 (-p.a + dx)))
            have hmv : moveT 2 dx p = ⟨-p.a + dx, -p.b⟩ := by unfold moveT; rw [if_neg (by decide), if_pos rfl]
            rw [hmv] at hTK
            have HTK := hid hTK
            clear hTK hmv HPZ
            go_wp2_with (at_builtin; refine wpList_pushG rfl (.tmp 111) (.tmp 113) 31 rfl 35 Try.underlying31 info_PointR rfl (by decide) w8.heap.size B k d (((spun L f 2 dx).take k).flatMap T2.v) rfl (((wp.setCell ⟨bp, 0, none⟩ (.int .i64 (-p.a))).setCell ⟨bp, 1, none⟩ (.int .i64 (-p.b))).setCell ⟨bp, 0, none⟩ (.int .i64 (-p.a + dx))) HQ.out.own (by repeat (first | exact Ext.refl _ | refine Ext.alloc ?_ _ | assumption | refine Ext.over ?_ _ | refine Ext.drew ?_ | refine Ext.drewN ?_ _)) HQ.out.grow.size _ 1 1 [.int .i64 (-p.a + dx), .int .i64 (-p.b)] rfl rfl (lit_cells _ _ (by first | (simp; done) | simp [ovr_size]) _ _) (by intro z hz; simp at hz; rcases hz with rfl | rfl <;> rfl) (by omega) (by decide) ?_)
            intro B2 d2 w10 hown hgr
            have HF := hid (HQ.out.push (B' := B2) (d' := d2) (M' := (spun L f 2 dx).take (k + 1)) (by rw [HTK.out, List.flatMap_append]; exact hown) hgr)
            have hxb := HF.out.1.1
            have hfb := HF.out.1.2
            clear hown hgr HQ
            go_wp2_with fail
            go_roundw
            case rel => exact ⟨k + 1, B2, d2, by omega, by go_num, HF.out.2.1, HF.out.2.2.1, HF.out.2.2.2⟩
            case measure => simp [intOf]; omega
          · have ht3 : (t == 2) = false := beq_eq_false_iff_ne.2 ht2
            have ht4 : (t == 1) = false := beq_eq_false_iff_ne.2 ht1
            have HQ := hid (HPZ.out.put 0 (.int .i64 (p.a + dx)))
            have hmv : moveT t dx p = ⟨p.a + dx, p.b⟩ := by unfold moveT; rw [if_neg ht1, if_neg ht2]
            rw [hmv] at hTK
            have HTK := hid hTK
            clear hTK hmv HPZ
            go_wp2_with (at_builtin; refine wpList_pushG rfl (.tmp 111) (.tmp 113) 31 rfl 35 Try.underlying31 info_PointR rfl (by decide) w8.heap.size B k d (((spun L f t dx).take k).flatMap T2.v) rfl (wp.setCell ⟨bp, 0, none⟩ (.int .i64 (p.a + dx))) HQ.out.own (by repeat (first | exact Ext.refl _ | refine Ext.alloc ?_ _ | assumption | refine Ext.over ?_ _ | refine Ext.drew ?_ | refine Ext.drewN ?_ _)) HQ.out.grow.size _ 1 1 [.int .i64 (p.a + dx), .int .i64 (p.b)] rfl rfl (lit_cells _ _ (by first | (simp; done) | simp [ovr_size]) _ _) (by intro z hz; simp at hz; rcases hz with rfl | rfl <;> rfl) (by omega) (by decide) ?_)
            intro B2 d2 w10 hown hgr
            have HF := hid (HQ.out.push (B' := B2) (d' := d2) (M' := (spun L f t dx).take (k + 1)) (by rw [HTK.out, List.flatMap_append]; exact hown) hgr)
            have hxb := HF.out.1.1
            have hfb := HF.out.1.2
            clear hown hgr HQ
            go_wp2_with fail
            go_roundw
            case rel => exact ⟨k + 1, B2, d2, by omega, by go_num, HF.out.2.1, HF.out.2.2.1, HF.out.2.2.2⟩
            case measure => simp [intOf]; omega
        · obtain rfl : k = n := by omega
          have hkt : ¬ (k : Int) < k := by omega
          have S9 := hid HG.out
          have h2r := HNE.out
          have hx2 := S8.out.x2.grown HG.out (by intro e; injection e with e; exact h2r.2.2.1 e)
          have hx2c := hx2.1
          have hx2f := hx2.2
          have hxb := HBX.out.1
          have h1 := S8.out.low
          have HLN := hid (show (spun L f t dx).take k = spun L f t dx by rw [List.take_of_length_le (by rw [spun_len, HLL.out]; exact Nat.le_refl _)])
          have HGG := hid (grown_then S8.out.grow HG.out (.inr fun j hj => by injection hj with hj; have := h2r.1; omega))
          have HCU := hid (S8.out.cur.kept HG.out (fun j hj => by injection hj with hj; have := h2r.1; omega))
          have hs8 := S8.out.grow.size
          clear h2r
          go_wp2_with fail
          refine bodyPost_ret (v := .agg #[.slice B k d]) (by first | (simp [results, Try.results43, go_sem, hx2c]; done) | (unfold results; rw [Try.results43]; go_simp)) rfl ?_
          have hg2 : wz.grownBy (wz.setCell ⟨w.heap.size, 0, none⟩ (.slice B k d)) (some w.heap.size) := only_setCell (g := w.heap.size) (p := ⟨w.heap.size, 0, none⟩) (World.grownBy.refl _ _) (.inl rfl) _
          refine ⟨B, k, d, rfl, spun L f t dx, by rw [spun_len]; exact HLL.out, ⟨HSP.out.1, HSP.out.2⟩, ?_, grown_then HGG.out hg2 (.inr fun j hj => by injection hj with hj; omega), HCU.out.kept hg2 (fun j hj => by injection hj with hj; omega)⟩
          have := HO.out
          rw [HLN.out] at this
          have h6 := S8.out.x2.lt
          exact own_base (this.kept hg2 (.inr fun e => by have := (HO.out.lt _ e).1; omega)) hs8
end Go.Proofs.Ytkifapcegiajiaa
