/- Walks: frames are drawn. Conditions: sizes. -/
import Derived.Test.YtnjmhdlcmbpfpaaPick
import Derived.Test.YtnjmhdlcmbpfpaaRowM
import Derived.Test.YtnjmhdlcmbpfpaaPushN
import Derived.Test.YtnjmhdlcmbpfpaaHer6
namespace Go.Proofs.Ytnjmhdlcmbpfpaa
open Go.RowKit
set_option linter.unusedVariables false

theorem info_FrameD : (Try.prog.info? 31).map (fun i => (i.zero, i.size, i.bytes)) = some (some (.agg #[.int .i64 0, .int .i64 0, .int .i64 0]), 3, 24) := by kernel_rfl
/-- Frames in order, with bounds. -/
def Frs (l : List T3) : Prop := l.length ≤ 9 ∧ l.Pairwise (fun x y => x.a < y.a ∧ x.b < y.b) ∧ ∀ x, x ∈ l → (1 ≤ x.a ∧ x.a ≤ 31) ∧ (1 ≤ x.b ∧ x.b ≤ 127) ∧ (0 ≤ x.c ∧ x.c ≤ 3)
/-- What the draw keeps: the cursor, the frame's box, the list. -/
structure Fs (w0 w : World) (g bf : Nat) (A : Option Addr) (k c : Nat) (l : List T3) (fa fb fc : Int) : Prop where
  cur : Cur w g
  grow : w0.grownBy w (some g)
  low : g < w0.heap.size
  bf0 : w0.heap.size ≤ bf
  c0 : w.cell? ⟨bf, 0, none⟩ = some (.int .i64 fa)
  c1 : w.cell? ⟨bf, 1, none⟩ = some (.int .i64 fb)
  c2 : w.cell? ⟨bf, 2, none⟩ = some (.int .i64 fc)
  f0 : w.frozen? ⟨bf, 0, none⟩ = false
  f1 : w.frozen? ⟨bf, 1, none⟩ = false
  f2 : w.frozen? ⟨bf, 2, none⟩ = false
  own : w.ownsRow w0.heap.size 31 3 (.slice A k c) k (l.flatMap T3.v)
  far : ∀ j, (Value.slice A k c).ownBlock = some j → j ≠ bf
theorem Fs.blk {w0 w w' : World} {g bf : Nat} {A : Option Addr} {k c : Nat} {l : List T3} {fa fb fc : Int} (s : Fs w0 w g bf A k c l fa fb fc) (hb : w'.heap[bf]? = w.heap[bf]?) (hc : Cur w' g) (hg : w0.grownBy w' (some g)) (ho : w'.ownsRow w0.heap.size 31 3 (.slice A k c) k (l.flatMap T3.v)) : Fs w0 w' g bf A k c l fa fb fc :=
  ⟨hc, hg, s.low, s.bf0, (World.cell?_of_block hb).trans s.c0, (World.cell?_of_block hb).trans s.c1, (World.cell?_of_block hb).trans s.c2, (World.frozen?_of_block hb).trans s.f0, (World.frozen?_of_block hb).trans s.f1, (World.frozen?_of_block hb).trans s.f2, ho, s.far⟩
theorem Fs.ext {w0 w w' : World} {g bf : Nat} {A : Option Addr} {k c : Nat} {l : List T3} {fa fb fc : Int} (s : Fs w0 w g bf A k c l fa fb fc) (he : Ext w w') : Fs w0 w' g bf A k c l fa fb fc :=
  s.blk (he.block _ (World.block_lt_of_cell? w _ s.c0)) (s.cur.ext he) (grown_then s.grow (ext_grown he (some g)) (.inl rfl)) (own_ext s.own he)
theorem Fs.drawn {w0 w w' : World} {g bf : Nat} {A : Option Addr} {k c : Nat} {l : List T3} {fa fb fc : Int} (s : Fs w0 w g bf A k c l fa fb fc) (hd : Drawn w w' g) : Fs w0 w' g bf A k c l fa fb fc :=
  s.blk (hd.1.block _ (World.block_lt_of_cell? w _ s.c0) (by have := s.low; have := s.bf0; intro e; injection e with e; omega)) hd.2 (grown_then s.grow hd.1 (.inl rfl)) (hd.own s.own s.low)
theorem Fs.setc {w0 w : World} {g bf : Nat} {A : Option Addr} {k c : Nat} {l : List T3} {fa fb fc : Int} (s : Fs w0 w g bf A k c l fa fb fc) (i : Nat) (u : Value) : Cur (w.setCell ⟨bf, i, none⟩ u) g ∧ w0.grownBy (w.setCell ⟨bf, i, none⟩ u) (some g) ∧ (w.setCell ⟨bf, i, none⟩ u).ownsRow w0.heap.size 31 3 (.slice A k c) k (l.flatMap T3.v) := by
  have h1 := s.low
  have h2 := s.bf0
  have hg : w.grownBy (w.setCell ⟨bf, i, none⟩ u) (some bf) := only_setCell (g := bf) (p := ⟨bf, i, none⟩) (World.grownBy.refl _ _) (.inl rfl) u
  exact ⟨s.cur.kept hg (fun k hk => by injection hk with hk; omega), grown_then s.grow hg (.inr fun k hk => by injection hk with hk; omega), s.own.kept hg (.inr fun e => s.far bf e rfl)⟩
theorem Fs.put0 {w0 w : World} {g bf : Nat} {A : Option Addr} {k c : Nat} {l : List T3} {fa fb fc : Int} (s : Fs w0 w g bf A k c l fa fb fc) (z : Int) : Fs w0 (w.setCell ⟨bf, 0, none⟩ (.int .i64 z)) g bf A k c l z fb fc := by
  obtain ⟨h1, h2, h3⟩ := s.setc 0 (.int .i64 z)
  have hc := s.c0
  have hf := s.f0
  exact ⟨h1, h2, s.low, s.bf0, by go_simp, (cell_set_off _ (by omega)).trans s.c1, (cell_set_off _ (by omega)).trans s.c2, (froz_set _).trans s.f0, (froz_set _).trans s.f1, (froz_set _).trans s.f2, h3, s.far⟩
theorem Fs.put1 {w0 w : World} {g bf : Nat} {A : Option Addr} {k c : Nat} {l : List T3} {fa fb fc : Int} (s : Fs w0 w g bf A k c l fa fb fc) (z : Int) : Fs w0 (w.setCell ⟨bf, 1, none⟩ (.int .i64 z)) g bf A k c l fa z fc := by
  obtain ⟨h1, h2, h3⟩ := s.setc 1 (.int .i64 z)
  have hc := s.c1
  have hf := s.f1
  exact ⟨h1, h2, s.low, s.bf0, (cell_set_off _ (by omega)).trans s.c0, by go_simp, (cell_set_off _ (by omega)).trans s.c2, (froz_set _).trans s.f0, (froz_set _).trans s.f1, (froz_set _).trans s.f2, h3, s.far⟩
theorem Fs.put2 {w0 w : World} {g bf : Nat} {A : Option Addr} {k c : Nat} {l : List T3} {fa fb fc : Int} (s : Fs w0 w g bf A k c l fa fb fc) (z : Int) : Fs w0 (w.setCell ⟨bf, 2, none⟩ (.int .i64 z)) g bf A k c l fa fb z := by
  obtain ⟨h1, h2, h3⟩ := s.setc 2 (.int .i64 z)
  have hc := s.c2
  have hf := s.f2
  exact ⟨h1, h2, s.low, s.bf0, (cell_set_off _ (by omega)).trans s.c0, (cell_set_off _ (by omega)).trans s.c1, by go_simp, (froz_set _).trans s.f0, (froz_set _).trans s.f1, (froz_set _).trans s.f2, h3, s.far⟩
theorem Fs.push {w0 w w' : World} {g bf : Nat} {A A' : Option Addr} {k c c' : Nat} {l l' : List T3} {fa fb fc : Int} (s : Fs w0 w g bf A k c l fa fb fc) {k' : Nat} (ho : w'.ownsRow w0.heap.size 31 3 (.slice A' k' c') k' (l'.flatMap T3.v)) (hg : w.grownBy w' (Value.slice A k c).ownBlock) (hf : ∀ j, (Value.slice A' k' c').ownBlock = some j → (Value.slice A k c).ownBlock = some j ∨ w.heap.size ≤ j) : Fs w0 w' g bf A' k' c' l' fa fb fc := by
  have hlt := World.block_lt_of_cell? w _ s.c0
  have h1 := s.low
  have own : ∀ j, (Value.slice A k c).ownBlock = some j → w0.heap.size ≤ j := fun j hj => (s.own.lt j hj).1
  have hb : w'.heap[bf]? = w.heap[bf]? := hg.block bf hlt (fun e => s.far bf e.symm rfl)
  refine ⟨s.cur.kept hg (fun j hj => by have := own j hj; omega), grown_then s.grow hg (.inr fun j hj => own j hj), s.low, s.bf0, (World.cell?_of_block hb).trans s.c0, (World.cell?_of_block hb).trans s.c1, (World.cell?_of_block hb).trans s.c2, (World.frozen?_of_block hb).trans s.f0, (World.frozen?_of_block hb).trans s.f1, (World.frozen?_of_block hb).trans s.f2, ho, fun j hj => ?_⟩
  rcases hf j hj with h | h
  · exact s.far j h
  · show j ≠ bf
    have : bf < w.heap.size := hlt
    omega
/-- The frames so far, and the last one's numbers. -/
def FrI (l : List T3) (fa fb : Int) : Prop := Frs l ∧ (0 ≤ fa ∧ fa ≤ 4 + 3 * (l.length : Int)) ∧ (0 ≤ fb ∧ fb ≤ 19 + 12 * (l.length : Int)) ∧ ∀ x, x ∈ l → x.a ≤ fa ∧ x.b ≤ fb
theorem FrI.snoc {l : List T3} {fa fb : Int} (h : FrI l fa fb) (hl : l.length < 9) {fa' fb' fc : Int} (ha : fa + 1 ≤ fa' ∧ fa' ≤ fa + 3) (hb : fb + 1 ≤ fb' ∧ fb' ≤ fb + 12) (hc : 0 ≤ fc ∧ fc ≤ 3) : FrI (l ++ [⟨fa', fb', fc⟩]) fa' fb' := by
  obtain ⟨⟨h1, h2, h3⟩, h4, h5, h6⟩ := h
  refine ⟨⟨by rw [List.length_append]; show l.length + 1 ≤ 9; omega, ?_, fun x hx => ?_⟩, ?_, ?_, fun x hx => ?_⟩
  · rw [List.pairwise_append]
    refine ⟨h2, by simp, fun x hx y hy => ?_⟩
    obtain rfl : y = ⟨fa', fb', fc⟩ := by simpa using hy
    have := h6 x hx
    constructor <;> (show _ < _; dsimp only; omega)
  · rcases List.mem_append.1 hx with hx | hx
    · exact h3 x hx
    · obtain rfl : x = ⟨fa', fb', fc⟩ := by simpa using hx
      refine ⟨?_, ?_, hc⟩ <;> (dsimp only; omega)
  · rw [List.length_append]; simp only [List.length_cons, List.length_nil]; omega
  · rw [List.length_append]; simp only [List.length_cons, List.length_nil]; omega
  · rcases List.mem_append.1 hx with hx | hx
    · have := h6 x hx; omega
    · obtain rfl : x = ⟨fa', fb', fc⟩ := by simpa using hx
      dsimp only; omega
set_option maxRecDepth 100000 in
set_option maxHeartbeats 3200000 in
theorem l27List_any (g : Nat) (w : World) (hc : Cur w g) : Calls Try.prog 16 #[.pointer (some ⟨g, 0, none⟩)] w fun en w' => ∃ (A : Option Addr) (k c : Nat) (l : List T3), en = .returned (.slice A k c) ∧ l.length = k ∧ Frs l ∧ w'.ownsRow w.heap.size 31 3 (.slice A k c) k (l.flatMap T3.v) ∧ Drawn w w' g := by
  have hlow := hc.lt
  have HC := hid hc
  clear hc
  go_enter Try.func16, Try.ntmps16
  go_wp2_with fail
  have HO0 := hid (own_empty w w.heap.size w.heap.size rfl (Nat.le_refl _) 31 3)
  have E0 := hid (show Ext w (w.alloc (.cells #[] 31)) by repeat (first | exact Ext.refl _ | refine Ext.alloc ?_ _ | assumption | refine Ext.over ?_ _ | refine Ext.drew ?_ | refine Ext.drewN ?_ _))
  refine (l01Below_any g 10 _ (HC.out.ext E0.out) (by omega)).mono ?_
  rintro _ w1 ⟨v, rfl, v0, v1, hd⟩
  obtain ⟨n, rfl⟩ : ∃ p : Nat, v = p := ⟨v.toNat, by omega⟩
  have hn9 : n ≤ 9 := by omega
  have HO1 := hid (hd.own HO0.out hlow)
  have HG1 := hid (grown_then (ext_grown E0.out (some g)) hd.1 (.inl rfl))
  have HC1 := hid hd.2
  have hs1 : w.heap.size + 1 ≤ w1.heap.size := by have := hd.size; simpa using this
  clear hd v0 v1 HO0 E0
  go_wp2_with fail
  refine (l01Below_any g 5 w1 HC1.out (by omega)).mono ?_
  rintro _ w2 ⟨fa, rfl, a0, a1, hd⟩
  have HO2 := hid (hd.own HO1.out hlow)
  have HG2 := hid (grown_then HG1.out hd.1 (.inl rfl))
  have HC2 := hid hd.2
  have hs2 := hd.size
  clear hd HO1 HG1 HC1
  go_wp2_with fail
  refine (l01Below_any g 20 w2 HC2.out (by omega)).mono ?_
  rintro _ w3 ⟨fb, rfl, b0, b1, hd⟩
  have HO3 := hid (hd.own HO2.out hlow)
  have HG3 := hid (grown_then HG2.out hd.1 (.inl rfl))
  have HC3 := hid hd.2
  have hs3 := hd.size
  clear hd HO2 HG2 HC2
  go_wp2_with fail
  obtain ⟨w4, hw4⟩ : ∃ w4, w4 = w3.alloc (.cells #[.int .i64 fa, .int .i64 fb, .int .i64 0] 31) := ⟨_, rfl⟩
  have e4 : Ext w3 w4 := by rw [hw4]; repeat (first | exact Ext.refl _ | refine Ext.alloc ?_ _ | assumption | refine Ext.over ?_ _ | refine Ext.drew ?_ | refine Ext.drewN ?_ _)
  have S := hid (show Fs w w4 g w3.heap.size (some ⟨w.heap.size, 0, none⟩) 0 0 [] fa fb 0 from
    ⟨HC3.out.ext e4, grown_then HG3.out (ext_grown e4 (some g)) (.inl rfl), hlow, by omega, by rw [hw4]; go_simp, by rw [hw4]; go_simp, by rw [hw4]; go_simp, by rw [hw4]; go_simp, by rw [hw4]; go_simp, by rw [hw4]; go_simp, own_ext HO3.out e4, fun j hj => by
      have hj' : w.heap.size = j := by injection hj
      omega⟩)
  have HI0 := hid (show FrI [] fa fb from ⟨⟨by simp, by simp, by simp⟩, by simp; omega, by simp; omega, by simp⟩)
  rw [← hw4]
  generalize w3.heap.size = bf at S ⊢
  clear hw4 e4 HO3 HG3 HC3 a0 a1 b0 b1 hs1 hs2 hs3
  go_loopw [3, 6] (fun ov kv wr => ∃ (k : Nat) (A : Option Addr) (c : Nat) (l : List T3) (fa fb fc : Int), k ≤ n ∧ kv = .int .i64 ↑k ∧ ov = .slice A k c ∧ l.length = k ∧ FrI l fa fb ∧ Fs w wr g bf A k c l fa fb fc) (fun _ kv _ => n - (intOf kv).toNat)
  case atStart => exact ⟨0, _, _, [], fa, fb, 0, by omega, rfl, rfl, rfl, HI0.out, S.out⟩
  case round =>
    clear S HI0
    obtain ⟨k, A, c, l, fa, fb, fc, hk, rfl, rfl, hll, hi, hs⟩ := hrel
    have HI := hid hi
    have S := hid hs
    have HLL := hid hll
    have h0 : (0 ≤ fa ∧ fa ≤ 31) ∧ (0 ≤ fb ∧ fb ≤ 127) := by have h5 := hi.2.1; have h6 := hi.2.2.1; omega
    clear hi hs hll
    by_cases hlt : k < n
    · have c0 := S.out.c0
      go_wp2_with fail
      refine wp_region_e (LaterG g g) (laterG_steady _ _) [.q 0, .q 1, .q 2, .u 3, .u 4, .u 5, .q 6] 7 _ rfl (by kernel_rfl) (by kernel_rfl) (fun w3 e3 => ?_)
      have hbg : ¬ bf = g := by have := S.out.bf0; have := S.out.low; omega
      have S3 := hid (S.out.ext (Ext.trans (by repeat (first | exact Ext.refl _ | refine Ext.alloc ?_ _ | assumption | refine Ext.over ?_ _ | refine Ext.drew ?_ | refine Ext.drewN ?_ _)) e3))
      have c0 := S3.out.c0
      clear e3 S
      simp only [pick, List.getElem?_cons_succ, List.getElem?_cons_zero]
      repeat (refine wpE_q (fun K hK => ?_); go_simp; refine hK _ ?_; clear hK K)
      refine wpE_u ?_
      refine stepH_of (fun K hK => ?_)
      go_simp
      refine hK _ _ (laterG_of (Kept.of_ext (by repeat (first | exact Ext.refl _ | refine Ext.alloc ?_ _ | assumption | refine Ext.over ?_ _ | refine Ext.drew ?_ | refine Ext.drewN ?_ _)))) ?_; clear hK K
      have HLIT := hid (lit_cells w3 w3.heap.size rfl [.int .i64 1, .int .i64 1, .int .i64 1, .int .i64 2, .int .i64 3] 3)
      have S4 := hid (S3.out.ext (show Ext w3 (w3.alloc (.cells #[.int .i64 1, .int .i64 1, .int .i64 1, .int .i64 2, .int .i64 3] 3)) by repeat (first | exact Ext.refl _ | refine Ext.alloc ?_ _ | assumption | refine Ext.over ?_ _ | refine Ext.drew ?_ | refine Ext.drewN ?_ _)))
      have hg3 : g < w3.heap.size := S3.out.cur.lt
      refine wpE_u ?_
      refine stepH_of (fun K hK => ?_)
      go_simp
      refine (PickInt_any g (some ⟨w3.heap.size, 0, none⟩) 5 5 [1, 1, 1, 2, 3] _ S4.out.cur (fun _ => ⟨_, _, rfl, fun j u hu => by
        have := HLIT.out j u hu
        rwa [show (⟨w3.heap.size, 0, none⟩ : Addr).add j = ⟨w3.heap.size, 0 + j, none⟩ from by unfold Addr.add; split <;> simp_all] at this⟩) rfl (by omega) (by omega) (fun b off h => by injection h with h; injection h with h; omega)).mono ?_
      rintro _ w5 ⟨v, rfl, hv, hd⟩
      refine ⟨_, rfl, hK _ _ (laterG_of (Kept.grown hd.1)) ?_⟩; clear hK K
      have S5 := hid (S4.out.drawn hd)
      have hv3 : 1 ≤ v ∧ v ≤ 3 := by simp only [List.mem_cons, List.not_mem_nil, or_false] at hv; omega
      clear hd hv S3 S4 HLIT c0
      ((first | refine wpE_u ?_ | skip); refine stepH_of (fun K hK => ?_); go_simp; refine hK _ _ (laterG_of (Kept.refl _ _ _)) ?_; clear hK K)
      (refine wpE_q (fun K hK => ?_); go_simp; refine hK _ ?_; clear hK K)
      have c0 := S5.out.c0
      have f0 := S5.out.f0
      refine wpE_nil (fun K hK => ?_)
      go_simp
      refine hK _ _ ?_; clear hK K
      have S6 := hid (S5.out.put0 (fa + v))
      clear S5 c0 f0
      rw [show IntKind.i64.wrap (fa + v) = fa + v from IntWalk.i64_in _ (by omega)]
      generalize w5.setCell ⟨bf, 0, none⟩ (.int .i64 (fa + v)) = w6 at S6 ⊢
      have c1 := S6.out.c1
      go_wp2_with fail
      refine wp_region_e (LaterG g g) (laterG_steady _ _) [.q 0, .q 1, .q 2, .q 3, .u 4, .u 5, .q 6] 7 _ rfl (by kernel_rfl) (by kernel_rfl) (fun w7 e7 => ?_)
      have S7 := hid (S6.out.ext (Ext.trans (by repeat (first | exact Ext.refl _ | refine Ext.alloc ?_ _ | assumption | refine Ext.over ?_ _ | refine Ext.drew ?_ | refine Ext.drewN ?_ _)) e7))
      have c1 := S7.out.c1
      clear e7 S6
      simp only [pick, List.getElem?_cons_succ, List.getElem?_cons_zero]
      repeat (refine wpE_q (fun K hK => ?_); go_simp; refine hK _ ?_; clear hK K)
      refine wpE_u ?_
      refine stepH_of (fun K hK => ?_)
      go_simp
      refine (l01Below_any g 12 w7 S7.out.cur (by omega)).mono ?_
      rintro _ w8 ⟨u, rfl, u0, u1, hd⟩
      refine ⟨_, rfl, hK _ _ (laterG_of (Kept.grown hd.1)) ?_⟩; clear hK K
      have S8 := hid (S7.out.drawn hd)
      clear hd S7 c1
      ((first | refine wpE_u ?_ | skip); refine stepH_of (fun K hK => ?_); go_simp; refine hK _ _ (laterG_of (Kept.refl _ _ _)) ?_; clear hK K)
      (refine wpE_q (fun K hK => ?_); go_simp; refine hK _ ?_; clear hK K)
      have c1 := S8.out.c1
      have f1 := S8.out.f1
      refine wpE_nil (fun K hK => ?_)
      go_simp
      refine hK _ _ ?_; clear hK K
      have S9 := hid (S8.out.put1 (fb + 1 + u))
      clear S8 c1 f1
      first
      | rw [show IntKind.i64.wrap (IntKind.i64.wrap (fb + 1) + u) = fb + 1 + u by rw [IntWalk.i64_in (fb + 1) (by omega), IntWalk.i64_in _ (by omega)]]
      | rw [show IntKind.i64.wrap (fb + 1 + u) = fb + 1 + u from IntWalk.i64_in _ (by omega)]
      generalize w8.setCell ⟨bf, 1, none⟩ (.int .i64 (fb + 1 + u)) = w9 at S9 ⊢
      go_wp2_with fail
      refine (l01Below_any g 4 w9 S9.out.cur (by omega)).mono ?_
      rintro _ w10 ⟨t, rfl, t0, t1, hd⟩
      have S10 := hid (S9.out.drawn hd)
      have c2 := S10.out.c2
      have f2 := S10.out.f2
      clear hd S9
      have c0 := S10.out.c0
      have c1 := S10.out.c1
      have HSZ := hid (show w.heap.size ≤ w10.heap.size from S10.out.grow.size)
      go_wp2_with (at_builtin; refine wpList_pushN rfl (.tmp 37) (.tmp 39) 24 rfl 31 Try.underlying24 info_FrameD rfl (by decide) w.heap.size A k c (l.flatMap T3.v) rfl (w10.setCell ⟨bf, 2, none⟩ (.int .i64 t)) (S10.out.put2 t).own (by repeat (first | exact Ext.refl _ | refine Ext.alloc ?_ _ | assumption | refine Ext.over ?_ _ | refine Ext.drew ?_ | refine Ext.drewN ?_ _)) (by simpa using HSZ.out) _ 1 1 [.int .i64 (fa + v), .int .i64 (fb + 1 + u), .int .i64 t] rfl rfl (lit_cells _ _ (by first | (simp; done) | simp [ovr_size]) _ _) (by intro x hx; simp at hx; rcases hx with rfl | rfl | rfl <;> rfl) (by decide) (by omega) (by decide) ?_)
      intro A2 c3 w11 hown hgr hfar
      have S11 := hid ((S10.out.put2 t).push (l' := l ++ [⟨fa + v, fb + 1 + u, t⟩]) (by rw [List.flatMap_append]; exact hown) hgr (fun j hj => by have := hfar j hj; simpa using this))
      have hlen := HLL.out
      have HI2 := hid (HI.out.snoc (by omega) (fa' := fa + v) (fb' := fb + 1 + u) (fc := t) (by omega) (by omega) (by omega))
      clear hown hgr hfar c0 c1 c2 f2 S10 HI
      go_wp2_with fail
      go_roundw
      case rel => exact ⟨k + 1, A2, c3, l ++ [⟨fa + v, fb + 1 + u, t⟩], _, _, _, by omega, by go_num, rfl, by rw [List.length_append, hlen]; rfl, HI2.out, S11.out⟩
      case measure => simp [intOf]; omega
    · obtain rfl : k = n := by omega
      go_wp2_with fail
      go_ret
      exact ⟨A, k, c, l, rfl, HLL.out, HI.out.1, S.out.own, S.out.grow, S.out.cur⟩
set_option maxRecDepth 100000 in
theorem DrawFrames_any (A : Option Addr) (n c : Nat) (bs : List Int) (w : World) (hl : Row w A (bs.map (Value.int .u8))) (hn : bs.length = n) (hx : n ≤ 1048576) (hz : ∀ z ∈ bs, 0 ≤ z ∧ z ≤ 255) :
    Calls Try.prog 6 #[.slice A n c] w fun en w' => ∃ (A : Option Addr) (k c : Nat) (l : List T3), en = .returned (.slice A k c) ∧ l.length = k ∧ Frs l ∧ w'.ownsRow w.heap.size 31 3 (.slice A k c) k (l.flatMap T3.v) ∧ Ext w w' := by
  have HZ := hid hz
  clear hz
  go_enter Try.func6, Try.ntmps6
  go_wp2_with fail
  refine (l01New_any A n c bs _ (hl.ext (by repeat (first | exact Ext.refl _ | refine Ext.alloc ?_ _ | assumption | refine Ext.over ?_ _ | refine Ext.drew ?_ | refine Ext.drewN ?_ _))) hn hx HZ.out).mono ?_
  rintro _ w1 ⟨g, rfl, hg, hc, he⟩
  have HC := hid hc
  have HE := hid he
  clear hc he
  go_wp2_with fail
  refine (l27List_any g w1 HC.out).mono ?_
  rintro _ w2 ⟨A2, k, c2, l, rfl, hll, hf, ho, hd⟩
  have HF := hid hf
  have HO := hid (own_base ho HE.out.size)
  have HE2 := hid (hd.out HE.out hg)
  clear hf ho hd
  go_wp2_with fail
  go_ret
  exact ⟨A2, k, c2, l, rfl, hll, HF.out, HO.out, HE2.out⟩
end Go.Proofs.Ytnjmhdlcmbpfpaa
