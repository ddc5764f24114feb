/- Walks: a house is drawn. Conditions: sizes. -/
import Derived.Test.YtngniniiohgilaaDrawP
import Derived.Test.YtngniniiohgilaaDraw2
namespace Go.Proofs.Ytngniniiohgilaa
open Go.RowKit
set_option linter.unusedVariables false

theorem info_bool : (Try.prog.info? 4).map (fun i => (i.zero, i.size, i.bytes)) = some (some (.bool false), 1, 1) := by kernel_rfl
theorem info_Door' : (Try.prog.info? 66).map (fun i => (i.zero, i.size, i.bytes)) = some (some (.agg #[.int .i64 0, .int .i64 0]), 2, 16) := by kernel_rfl
/-- A box of two cells that may be written. -/
def Res (w : World) (b : Nat) : Prop := (∃ u, w.cell? ⟨b, 0, none⟩ = some u) ∧ (∃ u, w.cell? ⟨b, 1, none⟩ = some u) ∧ w.frozen? ⟨b, 0, none⟩ = false ∧ w.frozen? ⟨b, 1, none⟩ = false
theorem Res.lt {w : World} {b : Nat} (r : Res w b) : b < w.heap.size := by obtain ⟨u, hu⟩ := r.1; exact World.block_lt_of_cell? w _ hu
theorem Res.blk {w w' : World} {b : Nat} (r : Res w b) (h : w'.heap[b]? = w.heap[b]?) : Res w' b := by
  obtain ⟨⟨u, hu⟩, ⟨v, hv⟩, h1, h2⟩ := r
  exact ⟨⟨u, (World.cell?_of_block h).trans hu⟩, ⟨v, (World.cell?_of_block h).trans hv⟩, (World.frozen?_of_block h).trans h1, (World.frozen?_of_block h).trans h2⟩
/-- What the draw of a house keeps: the cursor's block may have changed, else new memory has been made; the house's box, the table. -/
structure Hs (w0 w : World) (g gh gw h : Nat) (D : Option Addr) (m c : Nat) (S : List Nat) (l : List T2) : Prop where
  cur : Cur w g
  grow : w0.grownBy w (some g)
  low : g < w0.heap.size
  gh0 : w0.heap.size < gh
  gw0 : w0.heap.size < gw
  ne : gh ≠ gw
  c0 : w.cell? ⟨gh, 0, none⟩ = some (.int .i64 h)
  c1 : w.cell? ⟨gh, 1, none⟩ = some (.slice D m c)
  f1 : w.frozen? ⟨gh, 1, none⟩ = false
  tab : w.ownsRow w0.heap.size 4 1 (.slice (some ⟨gw, 0, none⟩) 49 49) 49 (wcs S)
  dr : w.ownsRow (w0.heap.size + 1) 66 2 (.slice D m c) m (l.flatMap T2.v)
  far : ∀ k, (Value.slice D m c).ownBlock = some k → k ≠ gh ∧ k ≠ gw
  res : Res w w0.heap.size
theorem Hs.ext {w0 w w' : World} {g gh gw h : Nat} {D : Option Addr} {m c : Nat} {S : List Nat} {l : List T2} (s : Hs w0 w g gh gw h D m c S l) (he : Ext w w') : Hs w0 w' g gh gw h D m c S l :=
  ⟨s.cur.ext he, grown_then s.grow (ext_grown he (some g)) (.inl rfl), s.low, s.gh0, s.gw0, s.ne, old_cell he s.c0, old_cell he s.c1, (Below.frozen he (World.block_lt_of_cell? w _ s.c1)).trans s.f1, own_ext s.tab he, own_ext s.dr he, s.far, s.res.blk (he.block _ s.res.lt)⟩
theorem Hs.drawn {w0 w w' : World} {g gh gw h : Nat} {D : Option Addr} {m c : Nat} {S : List Nat} {l : List T2} (s : Hs w0 w g gh gw h D m c S l) (hd : Drawn w w' g) : Hs w0 w' g gh gw h D m c S l := by
  have h1 := s.gh0
  have h2 := s.low
  have blk : ∀ b, b < w.heap.size → b ≠ g → w'.heap[b]? = w.heap[b]? := fun b hb hne => hd.1.block b hb (by intro e; injection e with e; exact hne e)
  have hgh := World.block_lt_of_cell? w _ s.c0
  refine ⟨hd.2, grown_then s.grow hd.1 (.inl rfl), s.low, s.gh0, s.gw0, s.ne, (World.cell?_of_block (blk gh hgh (by omega))).trans s.c0, (World.cell?_of_block (blk gh hgh (by omega))).trans s.c1, (World.frozen?_of_block (blk gh hgh (by omega))).trans s.f1, hd.own s.tab h2, hd.own s.dr (by omega), s.far, s.res.blk (blk _ s.res.lt (by omega))⟩
theorem Hs.mark {w0 w : World} {g gh gw h : Nat} {D : Option Addr} {m c : Nat} {S : List Nat} {l : List T2} (s : Hs w0 w g gh gw h D m c S l) {i : Nat} (hi : i < 49) : Hs w0 (w.setCell ⟨gw, i, none⟩ (.bool true)) g gh gw h D m c (i :: S) l := by
  have h1 := s.gw0
  have h2 := s.low
  have h3 := s.ne
  have hst := s.tab.stored i (.bool true)
  rw [wcs_set hi] at hst
  have blk : ∀ b, b ≠ gw → (w.setCell ⟨gw, i, none⟩ (.bool true)).heap[b]? = w.heap[b]? := fun b hb => Below.heap_setCell _ _ _ _ hb
  refine ⟨s.cur.kept hst.2 (fun k hk => by injection hk with hk; omega), grown_then s.grow hst.2 (.inr fun k hk => by injection hk with hk; omega), s.low, s.gh0, s.gw0, s.ne, (World.cell?_of_block (blk gh h3)).trans s.c0, (World.cell?_of_block (blk gh h3)).trans s.c1, (World.frozen?_of_block (blk gh h3)).trans s.f1, hst.1, s.dr.kept hst.2 (.inr fun e => (s.far gw e).2 rfl), s.far, s.res.blk (blk _ (by omega))⟩
set_option maxHeartbeats 1600000 in
theorem Hs.push {w0 w w' : World} {g gh gw h : Nat} {D D' : Option Addr} {m c c' : Nat} {S : List Nat} {l : List T2} (s : Hs w0 w g gh gw h D m c S l) {x : T2} (ho : w'.ownsRow (w0.heap.size + 1) 66 2 (.slice D' (m + 1) c') (m + 1) ((l ++ [x]).flatMap T2.v)) (hg : w.grownBy w' (Value.slice D m c).ownBlock) (hf : ∀ k, (Value.slice D' (m + 1) c').ownBlock = some k → k ≠ gh ∧ k ≠ gw) :
    Hs w0 (w'.setCell ⟨gh, 1, none⟩ (.slice D' (m + 1) c')) g gh gw h D' (m + 1) c' S (l ++ [x]) := by
  have h1 := s.gh0
  have h2 := s.low
  have h3 := s.ne
  have hgh := World.block_lt_of_cell? w _ s.c0
  have own : ∀ k, (Value.slice D m c).ownBlock = some k → w0.heap.size + 1 ≤ k := fun k hk => (s.dr.lt k hk).1
  have b1 : w'.heap[gh]? = w.heap[gh]? := hg.block gh hgh (fun e => (s.far gh e.symm).1 rfl)
  have c1' : w'.cell? ⟨gh, 1, none⟩ = some (.slice D m c) := (World.cell?_of_block b1).trans s.c1
  have blk : ∀ b, b ≠ gh → (w'.setCell ⟨gh, 1, none⟩ (.slice D' (m + 1) c')).heap[b]? = w'.heap[b]? := fun b hb => Below.heap_setCell _ _ _ _ hb
  have hg2 : w'.grownBy (w'.setCell ⟨gh, 1, none⟩ (.slice D' (m + 1) c')) (some gh) := only_setCell (World.grownBy.refl _ _) (.inl rfl) _
  refine ⟨(s.cur.kept hg (fun k hk => by have := own k hk; omega)).kept hg2 (fun k hk => by injection hk with hk; omega), grown_then (grown_then s.grow hg (.inr fun k hk => by have := own k hk; omega)) hg2 (.inr fun k hk => by injection hk with hk; omega), s.low, s.gh0, s.gw0, s.ne, (cell_set_off _ (by omega)).trans ((World.cell?_of_block b1).trans s.c0), ?_, (froz_set _).trans ((World.frozen?_of_block b1).trans s.f1), ?_, ?_, hf, ?_⟩
  · go_simp
  · exact (s.tab.kept hg (.inr fun e => (s.far gw e.symm).2 rfl)).kept hg2 (.inr fun e => by injection e with e; exact h3 e.symm)
  · exact ho.kept hg2 (.inr fun e => (hf gh e).1 rfl)
  · refine (s.res.blk (w' := w') (hg.block _ s.res.lt (fun e => by have := own _ e.symm; omega))).blk (blk _ (by omega))
set_option maxHeartbeats 1600000 in
theorem Hs.fin {w0 w : World} {g gh gw h : Nat} {D : Option Addr} {m c : Nat} {S : List Nat} {l : List T2} (s : Hs w0 w g gh gw h D m c S l) (u v : Value) :
    ((w.setCell ⟨w0.heap.size, 0, none⟩ u).setCell ⟨w0.heap.size, 1, none⟩ v).ownsRow w0.heap.size 66 2 (.slice D m c) m (l.flatMap T2.v) ∧ Drawn w0 ((w.setCell ⟨w0.heap.size, 0, none⟩ u).setCell ⟨w0.heap.size, 1, none⟩ v) g := by
  have hg : w.grownBy ((w.setCell ⟨w0.heap.size, 0, none⟩ u).setCell ⟨w0.heap.size, 1, none⟩ v) (some w0.heap.size) := only_setCell (g := w0.heap.size) (p := ⟨w0.heap.size, 1, none⟩) (only_setCell (g := w0.heap.size) (p := ⟨w0.heap.size, 0, none⟩) (World.grownBy.refl _ _) (.inl rfl) _) (.inl rfl) _
  have hl := s.low
  have h1 := s.dr.kept hg (.inr fun e => by have := (s.dr.lt _ e).1; omega)
  have h2 : w0.grownBy _ (some g) := grown_then s.grow hg (.inr fun k hk => by injection hk with hk; omega)
  have h3 : Cur _ g := s.cur.kept hg (fun k hk => by injection hk with hk; omega)
  exact ⟨own_base h1 (Nat.le_succ _), h2, h3⟩
section
variable {P : Program} {w : World} {ops : Array Oper} {rest : List Oper} {o : Oper} {a : Act} {Q : Exit → Act → World → Prop}
/-- append of cells that lie in memory to a row that the call owns: only that row has changed, or the new one is new. -/
theorem wpList_pushN (hgd : o.guard = none) (s x : Operand) (t : TypeId)
    (ho : o.op = .call { callee := .builtin .append, args := #[s, x], argTypes := #[t, t] })
    (e : TypeId) {z : Value} {size bytes : Nat} (ht : P.underlying t = some (.slice e)) (hinfo : (P.info? e).map (fun i => (i.zero, i.size, i.bytes)) = some (some z, size, bytes)) (hzs : z.cells.size = size) (hsz : 0 < size)
    (base : Nat) (A : Option Addr) (n c : Nat) (xs : List Value) (hs : a.eval s = .slice A n c) (w0 : World) (hown : w0.ownsRow base e size (.slice A n c) n xs) (he0 : Ext w0 w) (hbase : base ≤ w0.heap.size)
    (ad : Addr) (m c' : Nat) (news : List Value) (hx : a.eval x = .slice (some ad) m c') (hl : news.length = m * size) (hnews : ∀ j u, news[j]? = some u → w.cell? (ad.add j) = some u) (h1 : ∀ u ∈ news, u.oneCell' = true) (hm : 0 < m)
    (h63 : n + m ≤ 1000000000000) (hby : bytes ≤ 100)
    (h : ∀ A' c' w', w'.ownsRow base e size (.slice A' (n + m) c') (n + m) (xs ++ news) → w0.grownBy w' (Value.slice A n c).ownBlock → (∀ k, (Value.slice A' (n + m) c').ownBlock = some k → (Value.slice A n c).ownBlock = some k ∨ w0.heap.size ≤ k) → wpList P ops Q rest (a.put o.dst (.slice A' (n + m) c')) w') : wpList P ops Q (o :: rest) a w := by
  obtain ⟨i, hi, hz0, hz1, hz2⟩ := info_parts hinfo
  have hown' := own_ext hown he0
  have hs0 := he0.size
  refine wpList_append_lies w hgd s x t ho base e i z size bytes ht hi hz0 hz1 hz2 hzs hsz _ n xs hs hown' ad m c' news hx hl hnews h1 hm (by unfold maxLen; omega) ?_ (by omega) w.heap.size rfl ?_
  · have := Nat.mul_le_mul h63 hby; omega
  · intro g cap w' hw' hg hor _
    refine h _ _ w' hw' (grown_then (ext_grown he0 _) hg (.inl rfl)) (fun k hk => ?_)
    have hk' : g = k := by injection hk
    rcases hor with h2 | h2
    · exact .inl (by rw [← hk']; exact h2)
    · exact .inr (by omega)
end
set_option maxRecDepth 100000 in
set_option maxHeartbeats 1600000 in
theorem l23House_any (g : Nat) (w : World) (hc : Cur w g) : Calls Try.prog 40 #[.pointer (some ⟨g, 0, none⟩)] w fun en w' => ∃ (h m c : Nat) (A : Option Addr) (l : List T2), en = .returned (.agg #[.int .i64 h, .slice A m c]) ∧ houseOk h l = true ∧ w'.ownsRow w.heap.size 66 2 (.slice A m c) m (l.flatMap T2.v) ∧ l.length = m ∧ Drawn w w' g := by
  obtain ⟨i0, hi, hz0, hz1, hz2⟩ := info_parts info_bool
  have hlow := hc.lt
  have HC := hid hc
  clear hc
  go_enter Try.func40, Try.ntmps40
  go_wp2_with fail
  refine (l01Below_any g 7 _ (HC.out.ext (by repeat (first | exact Ext.refl _ | refine Ext.alloc ?_ _ | assumption | refine Ext.over ?_ _ | refine Ext.drew ?_ | refine Ext.drewN ?_ _))) (by omega)).mono ?_
  rintro _ w1 ⟨v, rfl, v0, v1, hd⟩
  obtain ⟨h, rfl⟩ : ∃ k : Nat, v = k := ⟨v.toNat, by omega⟩
  have hv6 : h ≤ 6 := by omega
  have HD := hid hd
  clear hd v0 v1
  go_wp2_with (at_make; refine wpList_make_full _ rfl (.const (.int .i64 49)) (.const (.int .i64 49)) 85 rfl w.heap.size 4 i0 _ 1 Try.underlying85 hi hz0 hz1 _ _ _ _ 49 rfl rfl rfl rfl (by rw [hz2]; omega) (by unfold maxLen; omega) (by have := HD.out.size; simp at this ⊢; omega) ?_)
  intro w2 hown hg2
  have HS := hid (show Hs w w2 g w1.heap.size (w1.heap.size + 1) (h + 1) none 0 0 [] [] from by
    have hsz := HD.out.size
    simp at hsz
    have ha : Drawn w w1 g := ⟨grown_then (ext_grown (show Ext w _ by repeat (first | exact Ext.refl _ | refine Ext.alloc ?_ _ | assumption | refine Ext.over ?_ _ | refine Ext.drew ?_ | refine Ext.drewN ?_ _)) (some g)) HD.out.1 (.inl rfl), HD.out.2⟩
    have e1 : Ext w1 (w1.alloc (.cells #[.int .i64 (1 + ↑h), .slice none 0 0] 26)) := by repeat (first | exact Ext.refl _ | refine Ext.alloc ?_ _ | assumption | refine Ext.over ?_ _ | refine Ext.drew ?_ | refine Ext.drewN ?_ _)
    have hd2 : Drawn w w2 g := ⟨grown_then (ha.ext e1).1 hg2 (.inr (by simp)), (ha.ext e1).2.kept hg2 (by simp)⟩
    have blk : ∀ b, b < w1.heap.size + 1 → w2.heap[b]? = (w1.alloc (.cells #[.int .i64 (1 + ↑h), .slice none 0 0] 26)).heap[b]? := fun b hb => hg2.block b (by simpa using hb) (by simp)
    rw [toList_madeCells_one] at hown
    refine ⟨hd2.2, hd2.1, hlow, by omega, by omega, by omega, ?_, ?_, ?_, hown, World.ownsRow_nil _ _ _ _, (fun k hk => by cases hk), ?_⟩
    · exact (World.cell?_of_block (blk _ (by show w1.heap.size < _; omega))).trans (by rw [show ((h + 1 : Nat) : Int) = 1 + (h : Int) by omega]; go_simp)
    · exact (World.cell?_of_block (blk _ (by show w1.heap.size < _; omega))).trans (by go_simp)
    · exact (World.frozen?_of_block (blk _ (by show w1.heap.size < _; omega))).trans (by go_simp)
    · have hr0 : Res (w.alloc (.cells #[.int .i64 0, .slice none 0 0] 26)) w.heap.size := ⟨⟨.int .i64 0, by go_simp⟩, ⟨.slice none 0 0, by go_simp⟩, by go_simp, by go_simp⟩
      have hr1 := hr0.blk (HD.out.1.block _ (by simp) (by intro e; injection e with e; omega))
      exact (hr1.blk (e1.block _ (by omega))).blk (blk _ (by omega)))
  obtain ⟨gh, hgh⟩ : ∃ gh, gh = w1.heap.size := ⟨_, rfl⟩
  obtain ⟨gw, hgw⟩ : ∃ gw, gw = w1.heap.size + 1 := ⟨_, rfl⟩
  obtain ⟨H, hH⟩ : ∃ H, H = h + 1 := ⟨_, rfl⟩
  rw [← hgw, ← hgh, ← hH] at HS
  rw [← hgw, ← hgh]
  have hH1 : 1 ≤ H ∧ H ≤ 7 := by omega
  clear hown hg2 hgh hgw hH HD hi hz0 hz1 hz2
  go_wp2_with fail
  go_loopw [5] (fun kv wr => ∃ (k : Nat) (S : List Nat), 1 ≤ k ∧ k ≤ H ∧ kv = .int .i64 ↑k ∧ Hs w wr g gh gw H none 0 0 S [] ∧ (∀ j, 1 ≤ j → j < k → ∃ p, p < j ∧ S.contains (p * 7 + j) = true) ∧ S.length + 1 ≤ k) (fun kv _ => H - (intOf kv).toNat)
  case atStart => exact ⟨1, [], by omega, by omega, rfl, HS.out, by omega, by simp⟩
  case round =>
    clear HS
    obtain ⟨k, S, hk1, hkH, rfl, hs, htr, hcn⟩ := hrel
    have HS := hid hs
    have HT := hid htr
    have c0 := hs.c0
    clear hs htr
    rename World => wo
    by_cases hlt : k < H
    · go_wp2_with fail
      refine (l01Below_any g k _ HS.out.cur (by omega)).mono ?_
      rintro _ w3 ⟨v, rfl, v0, v1, hd⟩
      obtain ⟨p, rfl⟩ : ∃ p : Nat, v = p := ⟨v.toNat, by omega⟩
      have hpk : p < k := by omega
      have HS3 := hid (HS.out.drawn hd)
      obtain ⟨u, o, f⟩ := own_some HS3.out.tab (p * 7 + k) (by omega)
      have hi49 : p * 7 + k < 49 := by omega
      clear hd v0 v1 c0
      go_wp2_with fail
      have HM := hid (HS3.out.mark hi49)
      have HTN := hid (show ∀ j, 1 ≤ j → j < k + 1 → ∃ q, q < j ∧ ((p * 7 + k) :: S).contains (q * 7 + j) = true from fun j hj hjk => by
        rcases Nat.lt_or_ge j k with h5 | h5
        · obtain ⟨q, hq, hc⟩ := HT.out j hj h5
          exact ⟨q, hq, by rw [List.contains_cons, hc, Bool.or_true]⟩
        · obtain rfl : j = k := by omega
          exact ⟨p, hpk, by rw [List.contains_cons]; simp⟩)
      go_roundw
      case rel => exact ⟨k + 1, (p * 7 + k) :: S, by omega, by omega, by go_num, HM.out, HTN.out, by simp; omega⟩
      case measure => simp [intOf]; omega
    · have hkH' : k = H := by omega
      rw [hkH'] at HT hcn
      clear hkH'
      go_wp2_with fail
      refine (l01Below_any g 4 _ HS.out.cur (by omega)).mono ?_
      rintro _ w3 ⟨v, rfl, v0, v1, hd⟩
      obtain ⟨q, rfl⟩ : ∃ q : Nat, v = q := ⟨v.toNat, by omega⟩
      have hq3 : q ≤ 3 := by omega
      have HS3 := hid (HS.out.drawn hd)
      clear hd v0 v1 HS c0
      go_wp2_with fail
      go_loopw [6, 7] (fun nv bv wr => ∃ (q : Nat) (S : List Nat), q ≤ 3 ∧ nv = .int .i64 ↑q ∧ Hs w wr g gh gw H none 0 0 S [] ∧ (∀ j, 1 ≤ j → j < H → ∃ p, p < j ∧ S.contains (p * 7 + j) = true) ∧ S.length + q ≤ 9) (fun nv _ _ => (intOf nv).toNat)
      case atStart => exact ⟨q, S, hq3, rfl, HS3.out, HT.out, by omega⟩
      case round =>
        clear HS3 HT hcn hq3
        obtain ⟨q, S, hq3, rfl, hs, htr, hcn⟩ := hrel
        have HS := hid hs
        have HT := hid htr
        have c0 := hs.c0
        clear hs htr
        rename World => wo
        by_cases hbody : 0 < q ∧ 2 < H
        · obtain ⟨hq0, hH2⟩ := hbody
          go_wp2_with fail
          refine (l01Below_any g _ _ HS.out.cur (by omega)).mono ?_
          rintro _ w4 ⟨v, rfl, v0, v1, hd⟩
          obtain ⟨B, hB⟩ : ∃ B : Nat, (1 : Int) + v = B := ⟨(1 + v).toNat, by omega⟩
          have hB1 : 1 ≤ B ∧ B < H := by omega
          have HS4 := hid (HS.out.drawn hd)
          have hvb : 0 ≤ v ∧ v ≤ 6 := by omega
          clear hd v0 v1 c0
          go_wp2_with fail
          refine (l01Below_any g _ _ HS4.out.cur (by omega)).mono ?_
          rintro _ w5 ⟨v', rfl, v0, v1, hd⟩
          obtain ⟨p, rfl⟩ : ∃ p : Nat, v' = p := ⟨v'.toNat, by omega⟩
          have hpB : p < B := by omega
          have HS5 := hid (HS4.out.drawn hd)
          obtain ⟨u, o, f⟩ := own_some HS5.out.tab (p * 7 + B) (by omega)
          have hi49 : p * 7 + B < 49 := by omega
          clear hd v0 v1
          go_wp2_with fail
          have HM := hid (HS5.out.mark hi49)
          have HTN := hid (show ∀ j, 1 ≤ j → j < H → ∃ q, q < j ∧ ((p * 7 + B) :: S).contains (q * 7 + j) = true from fun j hj hjk => by
            obtain ⟨q, hq, hc⟩ := HT.out j hj hjk
            exact ⟨q, hq, by rw [List.contains_cons, hc, Bool.or_true]⟩)
          have hqq : ((q : Int) - 1) = ((q - 1 : Nat) : Int) := by omega
          go_roundw
          case rel => exact ⟨q - 1, (p * 7 + B) :: S, by omega, by rw [hqq], HM.out, HTN.out, by simp; omega⟩
          case measure => simp [intOf]; omega
        · have HPL := hid (show Plan H S from ⟨hH1.1, hH1.2, HT.out, by omega⟩)
          have hqH : (q : Int) ≤ 0 ∨ (H : Int) ≤ 2 := by omega
          have hex : Hid (¬ (0 < q ∧ 2 < H)) := hid hbody
          clear HT hcn hbody
          rcases Nat.eq_zero_or_pos q with hq0 | hq0
          all_goals
            first | (subst hq0) | (have hH2 : ¬ (2 : Int) < H := by have := hex.out; omega)
            go_wp2_with fail
            go_loopw [8, 9] (fun av bv wr => ∃ (a m c : Nat) (D : Option Addr), a ≤ H ∧ av = .int .i64 ↑a ∧ (doorsTo S H a).length = m ∧ Hs w wr g gh gw H D m c S (doorsTo S H a)) (fun av _ _ => H - (intOf av).toNat)
            case atStart => exact ⟨0, 0, 0, none, by omega, rfl, rfl, HS.out⟩
            case round =>
              clear HS c0
              obtain ⟨a, m, c, D, ha, rfl, hlen, hs⟩ := hrel
              have HS := hid hs
              have HLN := hid hlen
              have c0 := hs.c0
              clear hs hlen
              rename World => wp
              by_cases hlt3 : a < H
              · go_wp2_with fail
                go_loopw [9] (fun bv wr => ∃ (b m c : Nat) (D : Option Addr), a < b ∧ b ≤ H ∧ bv = .int .i64 ↑b ∧ (doorsTo S H a ++ rowTo S a b).length = m ∧ m ≤ 49 ∧ Hs w wr g gh gw H D m c S (doorsTo S H a ++ rowTo S a b)) (fun bv _ => H - (intOf bv).toNat)
                case atStart =>
                  have h8 := doorsTo_len S hH1.2 a
                  have h9 := HLN.out
                  exact ⟨a + 1, m, c, D, by omega, by omega, by go_num, by rw [rowTo_start, List.append_nil]; exact HLN.out, by omega, by rw [rowTo_start, List.append_nil]; exact HS.out⟩
                case round =>
                  clear HS HLN c0
                  obtain ⟨b, m, c, D, hab, hbH, rfl, hlen, hm49, hs⟩ := hrel
                  have HS := hid hs
                  have HLN := hid hlen
                  have c0 := hs.c0
                  have c1 := hs.c1
                  have f1 := hs.f1
                  clear hlen
                  by_cases hlt4 : b < H
                  · have hi49 : a * 7 + b < 49 := by omega
                    have t0 : wr.cell? ⟨gw, a * 7 + b, none⟩ = some (.bool (S.contains (a * 7 + b))) := by rw [hs.tab.cellAt _ (by omega)]; exact wcs_get hi49
                    clear hs
                    cases hcb : S.contains (a * 7 + b)
                    · have HR := hid (rowTo_no hcb)
                      rw [hcb] at t0
                      go_wp2_with fail
                      go_roundw
                      case rel => exact ⟨b + 1, m, c, D, by omega, by omega, by go_num, by rw [HR.out]; exact HLN.out, hm49, by rw [HR.out]; exact HS.out⟩
                      case measure => simp [intOf]; omega
                    · have HR := hid (rowTo_yes hab hcb)
                      rw [hcb] at t0
                      have h8 := doorsTo_len S hH1.2 a
                      have h9 := rowTo_len S a (b + 1)
                      have hres := HS.out.res.lt
                      have hghl : gh < wr.heap.size := World.block_lt_of_cell? wr _ c0
                      have hgwl : gw < wr.heap.size := World.block_lt_of_cell? wr _ t0
                      go_wp2_with (at_builtin; refine wpList_pushN rfl (.tmp 76) (.tmp 80) 24 rfl 66 Try.underlying24 info_Door' rfl (by decide) (w.heap.size + 1) D m c ((doorsTo S H a ++ rowTo S a b).flatMap T2.v) rfl wr HS.out.dr (by repeat (first | exact Ext.refl _ | refine Ext.alloc ?_ _ | assumption | refine Ext.over ?_ _ | refine Ext.drew ?_ | refine Ext.drewN ?_ _)) (by omega) _ 1 1 [.int .i64 a, .int .i64 b] rfl rfl (lit_cells _ _ rfl _ _) (by intro u hu; simp at hu; rcases hu with rfl | rfl <;> rfl) (by omega) (by omega) (by decide) ?_)
                      intro D' c' w' ho hg hor
                      have hf : ∀ k, (Value.slice D' (m + 1) c').ownBlock = some k → k ≠ gh ∧ k ≠ gw := fun k hk => by
                        rcases hor k hk with h5 | h5
                        · exact HS.out.far k h5
                        · exact ⟨by omega, by omega⟩
                      have HP := hid (HS.out.push (x := ⟨(a : Int), (b : Int)⟩) (by rw [List.flatMap_append]; simpa [T2.v] using ho) hg hf)
                      have hb1 : w'.heap[gh]? = wr.heap[gh]? := hg.block gh hghl (fun e => (HS.out.far gh e.symm).1 rfl)
                      have c1' : w'.cell? ⟨gh, 1, none⟩ = some (.slice D m c) := (World.cell?_of_block hb1).trans c1
                      have f1' : w'.frozen? ⟨gh, 1, none⟩ = false := (World.frozen?_of_block hb1).trans f1
                      clear ho hg hor hf hb1 c0 c1 f1 t0
                      go_wp2_with fail
                      go_roundw
                      case rel =>
                        have hL2 : (doorsTo S H a ++ rowTo S a (b + 1)).length = m + 1 := by rw [HR.out, ← List.append_assoc, List.length_append, HLN.out]; rfl
                        have hm2 : m + 1 ≤ 49 := by rw [List.length_append] at hL2; omega
                        first
                          | exact ⟨b + 1, m + 1, c', D', by omega, by omega, by go_num, hL2, hm2, by rw [HR.out, ← List.append_assoc]; exact HP.out⟩
                          | ((repeat apply Exists.intro); exact ⟨⟨b + 1, m + 1, c', D', by omega, by omega, by go_num, hL2, hm2, by rw [HR.out, ← List.append_assoc]; exact HP.out⟩, rfl⟩)
                      case measure => simp [intOf]; omega
                  · obtain rfl : b = H := by omega
                    clear hs
                    go_wp2_with fail
                    go_roundw
                    case rel => exact ⟨a + 1, m, c, D, by omega, by go_num, HLN.out, HS.out⟩
                    case measure => simp [intOf]; omega
              · obtain rfl : a = H := by omega
                have c1 := HS.out.c1
                obtain ⟨⟨r0, hr0⟩, ⟨r1, hr1⟩, rf0, rf1⟩ := HS.out.res
                have hfin := HS.out.fin (.int .i64 a) (.slice D m c)
                have HFIN := hid hfin
                have HHO := hid HPL.out.ok
                clear hfin
                go_wp2_with fail
                refine bodyPost_ret (v := .agg #[.int .i64 a, .slice D m c]) (by first | (simp [results, Try.results40, go_sem]; done) | (unfold results; rw [Try.results40]; go_simp)) rfl ?_
                exact ⟨a, m, c, D, _, rfl, HHO.out, HFIN.out.1, HLN.out, HFIN.out.2⟩
end Go.Proofs.Ytngniniiohgilaa
