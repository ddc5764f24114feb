/-
  The cursor of the reference's draws, and its walks: a number below n is drawn, and nothing but the cursor has changed. Conditions: sizes.
-/
import Derived.Test.YtkifapcegiajiaaRows
import Derived.Test.YtkifapcegiajiaaPush
import Derived.Laws.BitsLemmas
import Derived.Laws.IdiomCopy
namespace Go.Proofs.Ytkifapcegiajiaa
open Go.RowKit
set_option linter.unusedVariables false

theorem and255 (n : Int) : bits .and .i64 n 255 = n % 256 := by
  have h127 : (BitVec.ofInt 64 255).toNat = 2 ^ 8 - 1 := by decide
  have key : (BitVec.ofInt 64 n &&& BitVec.ofInt 64 255).toNat = (n % ((2 ^ 64 : Nat) : Int)).toNat % 2 ^ 8 := by
    rw [BitVec.toNat_and, BitVec.toNat_ofInt, h127, Nat.and_two_pow_sub_one_eq_mod]
  show IntKind.i64.wrap ((BitVec.ofInt 64 n &&& BitVec.ofInt 64 255).toNat : Nat) = n % 256
  rw [key, IntKind.wrap_i64]
  omega
theorem and255_bd (n : Int) : 0 ≤ bits .and .i64 n 255 ∧ bits .and .i64 n 255 ≤ 255 := by rw [and255]; omega
theorem and30 (n : Int) : bits .and .i64 n 1073741823 = n % 1073741824 := by
  have h127 : (BitVec.ofInt 64 1073741823).toNat = 2 ^ 30 - 1 := by decide
  have key : (BitVec.ofInt 64 n &&& BitVec.ofInt 64 1073741823).toNat = (n % ((2 ^ 64 : Nat) : Int)).toNat % 2 ^ 30 := by
    rw [BitVec.toNat_and, BitVec.toNat_ofInt, h127, Nat.and_two_pow_sub_one_eq_mod]
  show IntKind.i64.wrap ((BitVec.ofInt 64 n &&& BitVec.ofInt 64 1073741823).toNat : Nat) = n % 1073741824
  rw [key, IntKind.wrap_i64]
  omega
theorem and30_bd (n : Int) : 0 ≤ bits .and .i64 n 1073741823 ∧ bits .and .i64 n 1073741823 ≤ 1073741823 := by rw [and30]; omega

/-- The cursor lies in block g: n bytes, i of them are read. -/
structure CurAt (w : World) (g : Nat) (C : Option Addr) (c : Nat) (bs : List Int) (i : Nat) (h : Int) : Prop where
  c0 : w.cell? ⟨g, 0, none⟩ = some (.slice C bs.length c)
  c1 : w.cell? ⟨g, 1, none⟩ = some (.int .i64 i)
  c2 : w.cell? ⟨g, 2, none⟩ = some (.int .i64 h)
  f1 : w.frozen? ⟨g, 1, none⟩ = false
  f2 : w.frozen? ⟨g, 2, none⟩ = false
  row : Row w C (bs.map (Value.int .u8))
  len : bs.length ≤ 1048576
  le : i ≤ bs.length
  far : bs.map (Value.int .u8) ≠ [] → ∀ b off, C = some ⟨b, off, none⟩ → b < g
  byte : ∀ z ∈ bs, 0 ≤ z ∧ z ≤ 255
def Cur (w : World) (g : Nat) : Prop := ∃ C c bs i h, CurAt w g C c bs i h
theorem name_world {P : World → Prop} {X : World} (F : World → Prop) (hF : F X) (h : ∀ W, F W → P W) : P X := h X hF
theorem CurAt.lt {w : World} {g : Nat} {C : Option Addr} {c : Nat} {bs : List Int} {i : Nat} {h : Int} (k : CurAt w g C c bs i h) : g < w.heap.size := World.block_lt_of_cell? w _ k.c0
theorem cell_set_off {w : World} {g o o' : Nat} (u : Value) (h : o ≠ o') : (w.setCell ⟨g, o, none⟩ u).cell? ⟨g, o', none⟩ = w.cell? ⟨g, o', none⟩ := by
  exact World.cell?_setCells_out g [u] o w ⟨g, o', none⟩ (fun _ _ => by simp; omega)
theorem froz_set {w : World} {p q : Addr} (u : Value) : (w.setCell p u).frozen? q = w.frozen? q := by
  go_simp
theorem CurAt.set2 {w : World} {g : Nat} {C : Option Addr} {c : Nat} {bs : List Int} {i : Nat} {h : Int} (k : CurAt w g C c bs i h) (h' : Int) : CurAt (w.setCell ⟨g, 2, none⟩ (.int .i64 h')) g C c bs i h' ∧ w.grownBy (w.setCell ⟨g, 2, none⟩ (.int .i64 h')) (some g) := by
  have hc := k.c2
  have hf := k.f2
  refine ⟨⟨(cell_set_off _ (by omega)).trans k.c0, (cell_set_off _ (by omega)).trans k.c1, by go_simp, (froz_set _).trans k.f1, (froz_set _).trans k.f2, fun hn => ?_, k.len, k.le, k.far, k.byte⟩, only_setCell (World.grownBy.refl _ _) (.inl rfl) _⟩
  obtain ⟨b, off, rfl, hcell⟩ := k.row hn
  have := k.far hn b off rfl
  refine ⟨b, off, rfl, fun j u hu => (Eq.trans ?_ (hcell j u hu))⟩
  exact World.cell?_of_block (Below.heap_setCell _ _ _ _ (by show b ≠ g; omega))
theorem CurAt.set1 {w : World} {g : Nat} {C : Option Addr} {c : Nat} {bs : List Int} {i : Nat} {h : Int} (k : CurAt w g C c bs i h) {i' : Nat} (hi : i' ≤ bs.length) : CurAt (w.setCell ⟨g, 1, none⟩ (.int .i64 i')) g C c bs i' h ∧ w.grownBy (w.setCell ⟨g, 1, none⟩ (.int .i64 i')) (some g) := by
  have hc := k.c1
  have hf := k.f1
  refine ⟨⟨(cell_set_off _ (by omega)).trans k.c0, by go_simp, (cell_set_off _ (by omega)).trans k.c2, (froz_set _).trans k.f1, (froz_set _).trans k.f2, fun hn => ?_, k.len, hi, k.far, k.byte⟩, only_setCell (World.grownBy.refl _ _) (.inl rfl) _⟩
  obtain ⟨b, off, rfl, hcell⟩ := k.row hn
  have := k.far hn b off rfl
  refine ⟨b, off, rfl, fun j u hu => (Eq.trans ?_ (hcell j u hu))⟩
  exact World.cell?_of_block (Below.heap_setCell _ _ _ _ (by show b ≠ g; omega))
theorem Cur.lt {w : World} {g : Nat} (h : Cur w g) : g < w.heap.size := by
  obtain ⟨C, c, bs, i, h, k⟩ := h
  exact k.lt
theorem CurAt.kept {w w' : World} {g : Nat} {C : Option Addr} {c : Nat} {bs : List Int} {i : Nat} {h : Int} {row : Option Nat} (k : CurAt w g C c bs i h) (hg : w.grownBy w' row) (hr : ∀ k, row = some k → g < k) : CurAt w' g C c bs i h := by
  have hlt := k.lt
  have hb : w'.heap[g]? = w.heap[g]? := hg.block g hlt fun e => by have := hr g e.symm; omega
  have cell : ∀ o, w'.cell? ⟨g, o, none⟩ = w.cell? ⟨g, o, none⟩ := fun o => World.cell?_of_block hb
  have froz : ∀ o, w'.frozen? ⟨g, o, none⟩ = w.frozen? ⟨g, o, none⟩ := fun o => World.frozen?_of_block hb
  refine ⟨(cell _).trans k.c0, (cell _).trans k.c1, (cell _).trans k.c2, (froz _).trans k.f1, (froz _).trans k.f2, fun hne => ?_, k.len, k.le, k.far, k.byte⟩
  obtain ⟨b, off, rfl, hc⟩ := k.row hne
  refine ⟨b, off, rfl, fun j u hu => ?_⟩
  have hlt' := World.block_lt_of_cell? w _ (hc j u hu)
  have hbg := k.far hne b off rfl
  have hb' : w'.heap[b]? = w.heap[b]? := hg.block b hlt' fun e => by have := hr b e.symm; omega
  exact (World.cell?_of_block hb').trans (hc j u hu)
theorem CurAt.ext {w w' : World} {g : Nat} {C : Option Addr} {c : Nat} {bs : List Int} {i : Nat} {h : Int} (k : CurAt w g C c bs i h) (he : Ext w w') : CurAt w' g C c bs i h := k.kept (ext_grown he none) (by simp)
theorem Cur.kept {w w' : World} {g : Nat} {row : Option Nat} (h : Cur w g) (hg : w.grownBy w' row) (hr : ∀ k, row = some k → g < k) : Cur w' g := by
  obtain ⟨C, c, bs, i, h, k⟩ := h
  exact ⟨C, c, bs, i, h, k.kept hg hr⟩
theorem Cur.ext {w w' : World} {g : Nat} (h : Cur w g) (he : Ext w w') : Cur w' g := h.kept (ext_grown he none) (by simp)
/-- Only the cursor has changed, and new memory has been made. -/
def Drawn (w w' : World) (g : Nat) : Prop := w.grownBy w' (some g) ∧ Cur w' g
theorem Drawn.refl {w : World} {g : Nat} (h : Cur w g) : Drawn w w g := ⟨World.grownBy.refl _ _, h⟩
theorem Drawn.trans {w w1 w2 : World} {g : Nat} (h : Drawn w w1 g) (k : Drawn w1 w2 g) : Drawn w w2 g := ⟨grown_then h.1 k.1 (.inl rfl), k.2⟩
theorem Drawn.ext {w w1 w2 : World} {g : Nat} (h : Drawn w w1 g) (he : Ext w1 w2) : Drawn w w2 g := ⟨grown_then h.1 (ext_grown he (some g)) (.inl rfl), h.2.ext he⟩
theorem Drawn.grown {w w1 w2 : World} {g : Nat} {row : Option Nat} (h : Drawn w w1 g) (hg : w1.grownBy w2 row) (hgw : g < w.heap.size) (hr : ∀ k, row = some k → w.heap.size ≤ k) : Drawn w w2 g :=
  ⟨grown_then h.1 hg (.inr hr), h.2.kept hg fun k hk => by have := hr k hk; omega⟩
theorem Drawn.own {w1 w2 : World} {g base : Nat} {e : TypeId} {size n : Nat} {v : Value} {cs : List Value} (h : Drawn w1 w2 g) (ho : w1.ownsRow base e size v n cs) (hb : g < base) : w2.ownsRow base e size v n cs :=
  ho.kept h.1 (.inr fun e => by have := (ho.lt g e).1; omega)
theorem Drawn.size {w w1 : World} {g : Nat} (h : Drawn w w1 g) : w.heap.size ≤ w1.heap.size := h.1.size
/-- What lay before the cursor is as it was. -/
theorem Drawn.out {w0 w w1 : World} {g : Nat} (h : Drawn w w1 g) (he : Ext w0 w) (hg : w0.heap.size ≤ g) : Ext w0 w1 :=
  Below.grown he h.1 he.size fun k hk => by injection hk with hk; omega
theorem Drawn.cell {w w1 : World} {g : Nat} (h : Drawn w w1 g) {p : Addr} (hp : p.block < w.heap.size) (hb : p.block ≠ g) : w1.cell? p = w.cell? p :=
  World.cell?_of_block (h.1.block p.block hp (by intro e; injection e with e; exact hb e))
theorem Drawn.row {w w1 : World} {g : Nat} {A : Option Addr} {cs : List Value} (h : Drawn w w1 g) (hr : Row w A cs) (hb : ∀ b off, A = some ⟨b, off, none⟩ → b ≠ g) : Row w1 A cs := fun hne => by
  obtain ⟨b, off, rfl, hc⟩ := hr hne
  exact ⟨b, off, rfl, fun j u hu => (h.cell (World.block_lt_of_cell? w _ (hc j u hu)) (hb b off rfl)).trans (hc j u hu)⟩

section
variable {P : Program} {w : World} {ops : Array Oper} {rest : List Oper} {o : Oper} {a : Act} {Q : Exit → Act → World → Prop}
/-- append of cells that lie in memory to a row that the call owns: only that row has changed. -/
theorem wpList_pushG (hgd : o.guard = none) (s x : Operand) (t : TypeId)
    (ho : o.op = .call { callee := .builtin .append, args := #[s, x], argTypes := #[t, t] })
    (e : TypeId) {z : Value} {size bytes : Nat} (ht : P.underlying t = some (.slice e)) (hinfo : (P.info? e).map (fun i => (i.zero, i.size, i.bytes)) = some (some z, size, bytes)) (hzs : z.cells.size = size) (hsz : 0 < size)
    (base : Nat) (A : Option Addr) (n c : Nat) (xs : List Value) (hs : a.eval s = .slice A n c) (w0 : World) (hown : w0.ownsRow base e size (.slice A n c) n xs) (he0 : Ext w0 w) (hbase : base ≤ w0.heap.size)
    (ad : Addr) (m c' : Nat) (news : List Value) (hx : a.eval x = .slice (some ad) m c') (hl : news.length = m * size) (hnews : ∀ j u, news[j]? = some u → w.cell? (ad.add j) = some u) (h1 : ∀ u ∈ news, u.oneCell' = true)
    (h63 : n + m ≤ 1000000000000) (hby : bytes ≤ 100)
    (h : ∀ A' c' w', w'.ownsRow base e size (.slice A' (n + m) c') (n + m) (xs ++ news) → w0.grownBy w' (Value.slice A n c).ownBlock → wpList P ops Q rest (a.put o.dst (.slice A' (n + m) c')) w') : wpList P ops Q (o :: rest) a w := by
  obtain ⟨i, hi, hz0, hz1, hz2⟩ := info_parts hinfo
  have hown' := own_ext hown he0
  have hs0 := he0.size
  refine wpList_append_own w hgd s x t ho base e i z size bytes ht hi hz0 hz1 hz2 hzs hsz _ n xs hs hown' ad m c' news hx hl hnews h1 (by unfold maxLen; omega) ?_ (by omega) ?_
  · have := Nat.mul_le_mul h63 hby; omega
  · intro v' w' hw' hg _
    obtain ⟨A', c', rfl⟩ := own_form hw'
    exact h A' c' w' hw' (grown_then (ext_grown he0 _) hg (.inl rfl))
end

/-- A number is drawn. -/
def DrawsIn (w : World) (g : Nat) (lo hi : Int) (e : Ending) (w' : World) : Prop := ∃ v : Int, e = .returned (.int .i64 v) ∧ lo ≤ v ∧ v ≤ hi ∧ Drawn w w' g
theorem old_cell {w1 w2 : World} (e : Ext w1 w2) {a : Addr} {u : Value} (h : w1.cell? a = some u) : w2.cell? a = some u := (Below.cell e (World.block_lt_of_cell? w1 a h)).trans h
set_option maxRecDepth 100000 in
set_option maxHeartbeats 1600000 in
theorem l01Byte_any (g : Nat) (w : World) (hc : Cur w g) : Calls Try.prog 93 #[.pointer (some ⟨g, 0, none⟩)] w (DrawsIn w g 0 255) := by
  obtain ⟨C, c, bs, i, h, k⟩ := hc
  have h2 := k.c2
  have f2 := k.f2
  have KK := hid k
  clear k
  go_enter Try.func93, Try.ntmps93
  go_wp2_with fail
  refine name_world (fun W => ∃ hh, CurAt W g C c bs i hh ∧ w.grownBy W (some g)) ⟨_, KK.out.set2 _⟩ (fun W1 hW1 => ?_)
  obtain ⟨hh, k1, g1⟩ := hW1
  have K1 := hid k1
  have G1 := hid g1
  have c0 := k1.c0
  have c1 := k1.c1
  have c2 := k1.c2
  clear h2 f2 KK g1 k1
  (refine wp_region_calm (by kernel_rfl) (by kernel_rfl) ?_; (repeat (go_big_quiet_step (fail))); refine wpQuiet_nil ?_; rintro w1 ⟨x1, rfl⟩)
  go_wp2_with fail
  have hz := and255_bd (bits .xor .i64 (hh / 8589934592) (hh / 35184372088832))
  generalize bits .and .i64 (bits .xor .i64 (hh / 8589934592) (hh / 35184372088832)) 255 = z at hz ⊢
  have e1 : Ext W1 (ovr W1 x1) := ovr_below W1 x1
  have K2 := hid (K1.out.ext e1)
  have D2 := hid (grown_then G1.out (ext_grown e1 (some g)) (.inl rfl))
  generalize ovr W1 x1 = W2 at K2 D2 ⊢
  have c0 := K2.out.c0
  have c1 := K2.out.c1
  have c2 := K2.out.c2
  clear e1 K1 G1
  by_cases hi : i < bs.length
  · obtain ⟨b, off, hCe, hcell⟩ := K2.out.row.at_ (j := i) (by simpa using hi)
    subst hCe
    have hbyte := hcell i _ (by rw [List.getElem?_map, List.getElem?_eq_getElem hi]; rfl)
    have hbz := K2.out.byte _ (List.getElem_mem hi)
    generalize bs[i] = y at hbyte hbz
    have hw : IntKind.i64.wrap (z + y) = z + y := IntWalk.i64_in _ ⟨by omega, by omega⟩
    clear hcell
    (refine wp_region_calm (by kernel_rfl) (by kernel_rfl) ?_; (repeat (go_big_quiet_step (fail))); refine wpQuiet_nil ?_; rintro w1 ⟨x1, rfl⟩)
    go_wp2_with fail
    have e2 : Ext W2 (ovr W2 x1) := ovr_below W2 x1
    have K3 := hid (K2.out.ext e2)
    have D3 := hid (grown_then D2.out (ext_grown e2 (some g)) (.inl rfl))
    have hbyte := old_cell e2 hbyte
    generalize ovr W2 x1 = W3 at K3 D3 hbyte ⊢
    have c0 := K3.out.c0
    have c1 := K3.out.c1
    have c2 := K3.out.c2
    clear e2 K2 D2
    (refine wp_region_calm (by kernel_rfl) (by kernel_rfl) ?_; (repeat (go_big_quiet_step (fail))); refine wpQuiet_nil ?_; rintro w1 ⟨x1, rfl⟩)
    have e3 : Ext W3 (ovr W3 x1) := ovr_below W3 x1
    have K4 := hid (K3.out.ext e3)
    have D4 := hid (grown_then D3.out (ext_grown e3 (some g)) (.inl rfl))
    generalize ovr W3 x1 = W4 at K4 D4 ⊢
    have c1 := K4.out.c1
    have f1 := K4.out.f1
    have hx := and255_bd (z + y)
    generalize bits .and .i64 (z + y) 255 = x at hx ⊢
    clear e3 K3 D3 c0 c2
    have hi1 : i ≤ 1048576 := by have := K4.out.len; omega
    go_wp2_with fail
    go_ret
    have hs := K4.out.set1 (i' := i + 1) (by omega)
    exact ⟨x, rfl, hx.1, hx.2, grown_then D4.out hs.2 (.inl rfl), _, _, _, _, _, hs.1⟩
  · have e2 : Ext W2 W2 := Ext.refl _
    (refine wp_region_calm (by kernel_rfl) (by kernel_rfl) ?_; (repeat (go_big_quiet_step (fail))); refine wpQuiet_nil ?_; rintro w1 ⟨x1, rfl⟩)
    go_wp2_with fail
    go_ret
    exact ⟨z, rfl, hz.1, hz.2, grown_then D2.out (ext_grown (show Ext W2 _ by repeat (first | exact Ext.refl _ | refine Ext.alloc ?_ _ | assumption | refine Ext.over ?_ _ | refine Ext.drew ?_ | refine Ext.drewN ?_ _)) (some g)) (.inl rfl), _, _, _, _, _, K2.out.ext (by repeat (first | exact Ext.refl _ | refine Ext.alloc ?_ _ | assumption | refine Ext.over ?_ _ | refine Ext.drew ?_ | refine Ext.drewN ?_ _))⟩
end Go.Proofs.Ytkifapcegiajiaa
