/- Walks: the program's way along corners. Conditions: sizes. -/
import Derived.Test.YtkifapcegiajiaaPieceI
import Derived.Test.YtkifapcegiajiaaCornerS
namespace Go.Proofs.Ytkifapcegiajiaa
open Go.RowKit
set_option linter.unusedVariables false

theorem two_rowP (w : World) (g : Nat) (hg : g = w.heap.size) (a b c d : Int) (t : TypeId) : Row (w.alloc (.cells #[.int .i64 a, .int .i64 b, .int .i64 c, .int .i64 d] t)) (some ⟨g, 0, none⟩) (([⟨a, b⟩, ⟨c, d⟩] : List T2).flatMap T2.v) :=
  Row.lit w g hg [.int .i64 a, .int .i64 b, .int .i64 c, .int .i64 d] t
theorem allIn_two (L : List T2) (p q : T2) : allIn L [p, q] = (isIn L p && isIn L q) := by
  rw [isIn_val, isIn_val]
  have : insI L [p, q] = ((pokT p && !(placeI L p == 0)) && (pokT q && !(placeI L q == 0))) := by
    unfold insI allN
    rw [show [p, q].length = 2 from rfl, show List.range 2 = [0, 1] from rfl]
    simp only [List.all_cons, List.all_nil, Bool.and_true]
    rfl
  unfold allIn
  rw [this]
  cases roomS L <;> cases pokT p <;> cases pokT q <;> cases (placeI L p == 0) <;> cases (placeI L q == 0) <;> rfl
theorem own_nilC (w : World) (base : Nat) (e : TypeId) (size : Nat) : w.ownsRow base e size (.slice none 0 0) 0 [] := ⟨by simp, .inl ⟨rfl, rfl⟩⟩
theorem Two.kept {w w' : World} {b : Nat} {x y : Int} {row : Option Nat} (h : Two w b x y) (hg : w.grownBy w' row) (hne : row ≠ some b) : Two w' b x y := by
  obtain ⟨p0, p1, f0, f1⟩ := h
  have hb : w'.heap[b]? = w.heap[b]? := hg.block b (World.block_lt_of_cell? w _ p0) (fun e => hne e.symm)
  exact ⟨(World.cell?_of_block hb).trans p0, (World.cell?_of_block hb).trans p1, (World.frozen?_of_block hb).trans f0, (World.frozen?_of_block hb).trans f1⟩
theorem Two.lt {w : World} {b : Nat} {x y : Int} (h : Two w b x y) : b < w.heap.size := World.block_lt_of_cell? w _ h.1
/-- What the way along corners keeps: the room's box, the numbers, the point where one stands, the list. -/
structure CI (A : Option Addr) (n c : Nat) (w : World) (gd dd : Nat) (ds : List Value) (gb : Nat) (a : T2) (A' : Option Addr) (m' c' : Nat) (l : List Nat) (wr : World) : Prop where
  E : Ext w wr
  rb : wr.cell? ⟨w.heap.size, 0, none⟩ = some (.slice A n c)
  D : wr.ownsRow (w.heap.size + 1) 3 1 (.slice (some ⟨gd, 0, none⟩) n dd) n ds
  P : Two wr gb a.a a.b
  O : wr.ownsRow (w.heap.size + 1) 3 1 (.slice A' m' c') m' (vl l)
  lo : w.heap.size < gb
  ne : (Value.slice A' m' c').ownBlock ≠ some gb ∧ (Value.slice A' m' c').ownBlock ≠ some gd ∧ gd ≠ gb
section
variable {A : Option Addr} {n c : Nat} {w : World} {gd dd : Nat} {ds : List Value} {gb : Nat} {a : T2} {A' : Option Addr} {m' c' : Nat} {l : List Nat} {wr : World}
theorem CI.ext (h : CI A n c w gd dd ds gb a A' m' c' l wr) {wr' : World} (e : Ext wr wr') : CI A n c w gd dd ds gb a A' m' c' l wr' :=
  ⟨h.E.trans e, old_cell e h.rb, own_ext h.D e, h.P.ext e, own_ext h.O e, h.lo, h.ne⟩
theorem CI.push (h : CI A n c w gd dd ds gb a A' m' c' l wr) {A3 : Option Addr} {m3 c3 k : Nat} {w3 : World} (ho : w3.ownsRow (w.heap.size + 1) 3 1 (.slice A3 m3 c3) m3 (vl l ++ [.int .i64 (k : Int)])) (hg : wr.grownBy w3 (Value.slice A' m' c').ownBlock)
    (hn : ∀ k, (Value.slice A3 m3 c3).ownBlock = some k → (Value.slice A' m' c').ownBlock = some k ∨ wr.heap.size ≤ k) : CI A n c w gd dd ds gb a A3 m3 c3 (l ++ [k]) w3 := by
  have hgd := (h.D.lt gd rfl).2
  have hgb := h.P.lt
  have hw := h.E.size
  have hr := World.block_lt_of_cell? wr _ h.rb
  obtain ⟨n1, n2, n3⟩ := h.ne
  have hlo : ∀ k, (Value.slice A' m' c').ownBlock = some k → w.heap.size + 1 ≤ k := fun k hk => (h.O.lt k hk).1
  refine ⟨Below.grown h.E hg hw (fun k hk => by have := hlo k hk; omega), ?_, h.D.kept hg (.inr fun e => n2 e.symm), h.P.kept hg n1, by rw [vl_snoc]; exact ho, h.lo, ?_, ?_, n3⟩
  · refine (World.cell?_of_block (hg.block _ hr ?_)).trans h.rb
    intro e
    have := hlo _ e.symm
    change w.heap.size + 1 ≤ w.heap.size at this
    omega
  · intro e
    rcases hn gb e with h1 | h1
    · exact n1 h1
    · omega
  · intro e
    rcases hn gd e with h1 | h1
    · exact n2 h1
    · omega
theorem CI.put (h : CI A n c w gd dd ds gb a A' m' c' l wr) (x : T2) : CI A n c w gd dd ds gb x A' m' c' l ((wr.setCell ⟨gb, 0, none⟩ (.int .i64 x.a)).setCell ⟨gb, 1, none⟩ (.int .i64 x.b)) := by
  obtain ⟨n1, n2, n3⟩ := h.ne
  have hlo := h.lo
  have hb : gb ≠ w.heap.size := by omega
  have hg : wr.grownBy ((wr.setCell ⟨gb, 0, none⟩ (.int .i64 x.a)).setCell ⟨gb, 1, none⟩ (.int .i64 x.b)) (some gb) := only_setCell (only_setCell (World.grownBy.refl _ _) (g := gb) (.inl rfl) _) (g := gb) (.inl rfl) _
  refine ⟨(h.E.setCell (by show w.heap.size ≤ gb; omega) _).setCell (by show w.heap.size ≤ gb; omega) _, ?_, h.D.kept hg (.inr fun e => n3 (by simpa [Value.ownBlock] using e)), h.P.put, h.O.kept hg (.inr n1), h.lo, h.ne⟩
  have hr := World.block_lt_of_cell? wr _ h.rb
  exact (World.cell?_of_block (hg.block _ hr (by intro e; injection e with e; exact hb e.symm))).trans h.rb
/-- The point's box is made anew. -/
theorem CI.box (h : CI A n c w gd dd ds gb a A' m' c' l wr) {t : TypeId} : CI A n c w gd dd ds wr.heap.size a A' m' c' l (wr.alloc (.cells #[.int .i64 a.a, .int .i64 a.b] t)) := by
  have hgd := (h.D.lt gd rfl).2
  have hgb := h.P.lt
  have hlo := h.lo
  have e : Ext wr (wr.alloc (.cells #[.int .i64 a.a, .int .i64 a.b] t)) := by repeat (first | exact Ext.refl _ | refine Ext.alloc ?_ _ | assumption | refine Ext.over ?_ _ | refine Ext.drew ?_ | refine Ext.drewN ?_ _)
  refine ⟨h.E.trans e, old_cell e h.rb, own_ext h.D e, Two.fresh, own_ext h.O e, by omega, ?_, h.ne.2.1, by omega⟩
  intro e
  have := (h.O.lt _ e).2
  omega
end
set_option maxHeartbeats 1600000 in
set_option maxRecDepth 100000 in
theorem iWay_any (A : Option Addr) (n c : Nat) (L : List T2) (p q : T2) (w : World) (hl : Row w A (L.flatMap T2.v)) (hn : L.length = n) (hx : n ≤ 1048577) :
    Calls Try.prog 10 #[.agg #[.slice A n c], ptV p, ptV q] w fun en w' => ∃ A' m' c', en = .returned (.tuple #[.slice A' m' c', .bool (isIn L p && isIn L q)]) ∧ w'.ownsRow w.heap.size 3 1 (.slice A' m' c') m' (vl (if (isIn L p && isIn L q) = true then wayI L p q else [])) ∧ Ext w w' := by
  have HIN := hid (fun B d w' (h : Row w' A (L.flatMap T2.v)) (hr : Row w' B ([p, q].flatMap T2.v)) => allIn_any A n c L B 2 d [p, q] w' h hn hx hr rfl (by omega))
  rw [allIn_two] at HIN
  have HL := hid hl
  clear hl
  unfold ptV at *
  have HROW := hid (two_rowP (((w.alloc (.cells #[.slice A n c] 33)).alloc (.cells #[.int .i64 p.a, .int .i64 p.b] 35)).alloc (.cells #[.int .i64 q.a, .int .i64 q.b] 35)) (w.heap.size + 1 + 1 + 1) (by simp) p.a p.b q.a q.b 35)
  cases hip : (isIn L p && isIn L q)
  · go_enter Try.func10, Try.ntmps10
    go_wp2_with (go_at_call 37; refine (gives_b hip (HIN.out _ 2 _ (HL.out.ext (by repeat (first | exact Ext.refl _ | refine Ext.alloc ?_ _ | assumption | refine Ext.over ?_ _ | refine Ext.drew ?_ | refine Ext.drewN ?_ _))) HROW.out)).over.mono ?_; rintro e w' ⟨rfl, xw, rfl⟩)
    go_ret2
    exact ⟨_, _, _, rfl, own_nilC _ _ _ _, by repeat (first | exact Ext.refl _ | refine Ext.alloc ?_ _ | assumption | refine Ext.over ?_ _ | refine Ext.drew ?_ | refine Ext.drewN ?_ _)⟩
  have hpq := (Bool.and_eq_true _ _).mp hip
  have hro := (isIn_room hpq.1).1
  have hpp := (isIn_room hpq.1).2
  have hqq := (isIn_room hpq.2).2
  have HSE := hid (fun a b w' (h : Row w' A (L.flatMap T2.v)) ha hb => sees_any A n c L a b w' h hn hro ha hb)
  have HPI := hid (fun w' (h : Row w' A (L.flatMap T2.v)) => piecesTo_any A n c L p q w' h hn hro hpp hqq)
  have HPK := hid (fun k hk => (roomP_of hro).pok k hk)
  have hn10 : n ≤ 10 := by have := (roomP_of hro).hi; omega
  have HPP := hid hpp
  unfold ptV at *
  clear hpq hro hpp hqq
  subst hn
  go_enter Try.func10, Try.ntmps10
  go_wp2_with (go_at_call 37; refine (gives_b hip (HIN.out _ 2 _ (HL.out.ext (by repeat (first | exact Ext.refl _ | refine Ext.alloc ?_ _ | assumption | refine Ext.over ?_ _ | refine Ext.drew ?_ | refine Ext.drewN ?_ _))) HROW.out)).over.mono ?_; rintro e w' ⟨rfl, xw, rfl⟩)
  have HB0 := hid (show (((w.alloc (.cells #[.slice A L.length c] 33)).alloc (.cells #[.int .i64 p.a, .int .i64 p.b] 35)).alloc (.cells #[.int .i64 q.a, .int .i64 q.b] 35)).cell? ⟨w.heap.size, 0, none⟩ = some (.slice A L.length c) by go_simp)
  have HB1 := hid (show Two (((w.alloc (.cells #[.slice A L.length c] 33)).alloc (.cells #[.int .i64 p.a, .int .i64 p.b] 35)).alloc (.cells #[.int .i64 q.a, .int .i64 q.b] 35)) (w.heap.size + 1) p.a p.b from ⟨by go_simp, by go_simp, by go_simp, by go_simp⟩)
  refine (HPI.out _ (HL.out.ext (by repeat (first | exact Ext.refl _ | refine Ext.alloc ?_ _ | assumption | refine Ext.over ?_ _ | refine Ext.drew ?_ | refine Ext.drewN ?_ _)))).mono ?_
  rintro _ w2 ⟨gd, dd, rfl, ho, he⟩
  have hE2 : Ext (((w.alloc (.cells #[.slice A L.length c] 33)).alloc (.cells #[.int .i64 p.a, .int .i64 p.b] 35)).alloc (.cells #[.int .i64 q.a, .int .i64 q.b] 35)) w2 := Ext.trans (by repeat (first | exact Ext.refl _ | refine Ext.alloc ?_ _ | assumption | refine Ext.over ?_ _ | refine Ext.drew ?_ | refine Ext.drewN ?_ _)) he
  have r0 := old_cell hE2 HB0.out
  have hpt := HB1.out.ext hE2
  have p0 := hpt.1
  have p1 := hpt.2.1
  obtain ⟨D, hD⟩ : ∃ D, D = distF L (L ++ [p]) q := ⟨_, rfl⟩
  obtain ⟨N, hN⟩ : ∃ N, N = distF L (L ++ [p]) q L.length := ⟨_, rfl⟩
  have hnb : -1 ≤ N ∧ N ≤ L.length + 1 := by rw [hN, dist_p]; exact bestS_bound L q p
  have HNB := hid hnb
  have HWI := hid (show wayN L (okI L D) (N - 1).toNat p = wayI L p q by unfold wayI nOf; rw [hN, dist_p, hD])
  have HCI := hid (show CI A L.length c w gd dd ((List.range L.length).map fun v => .int .i64 (D v)) (w2.heap.size + 1) p (some ⟨w2.heap.size, 0, none⟩) 0 0 [] ((w2.alloc (.cells #[] 3)).alloc (.cells #[.int .i64 p.a, .int .i64 p.b] 35)) from by
    have hs := hE2.size
    have hg := ho.lt gd rfl
    simp at hs
    have e1 : Ext w w2 := Ext.trans (by repeat (first | exact Ext.refl _ | refine Ext.alloc ?_ _ | assumption | refine Ext.over ?_ _ | refine Ext.drew ?_ | refine Ext.drewN ?_ _)) hE2
    have h1 := hg.1
    simp [ovr_size] at h1
    refine ⟨e1.trans (by repeat (first | exact Ext.refl _ | refine Ext.alloc ?_ _ | assumption | refine Ext.over ?_ _ | refine Ext.drew ?_ | refine Ext.drewN ?_ _)), old_cell (show Ext w2 _ by repeat (first | exact Ext.refl _ | refine Ext.alloc ?_ _ | assumption | refine Ext.over ?_ _ | refine Ext.drew ?_ | refine Ext.drewN ?_ _)) r0, ?_, ?_, ?_, by omega, ?_, ?_, by omega⟩
    · rw [hD]; exact own_ext (own_base ho (by simp [ovr_size]; omega)) (by repeat (first | exact Ext.refl _ | refine Ext.alloc ?_ _ | assumption | refine Ext.over ?_ _ | refine Ext.drew ?_ | refine Ext.drewN ?_ _))
    · have := Two.fresh (w := w2.alloc (.cells #[] 3)) (x := p.a) (y := p.b) (t := 35)
      simpa using this
    · exact own_ext (own_empty w2 w2.heap.size (w.heap.size + 1) rfl (by omega) 3 1) (by repeat (first | exact Ext.refl _ | refine Ext.alloc ?_ _ | assumption | refine Ext.over ?_ _ | refine Ext.drew ?_ | refine Ext.drewN ?_ _))
    · simp [Value.ownBlock]
    · simp [Value.ownBlock]; omega)
  rw [← hN]
  clear ho he hE2 HB0 HB1 hpt r0 HROW hN hD
  go_wp2_with fail
  clear p0 p1
  go_loopw [9, 10, 11] (fun nv ov pv wr => ∃ (z : Int) (a : T2) (l : List Nat) (A' : Option Addr) (m' c' gb : Nat), nv = .int .i64 z ∧ (-1 ≤ z ∧ z ≤ L.length + 1) ∧ ov = .slice A' m' c' ∧ pv = .pointer (some ⟨gb, 0, none⟩) ∧ m' + (z - 1).toNat ≤ 11 ∧ l ++ wayN L (okI L D) (z - 1).toNat a = wayI L p q ∧ pokT a = true ∧ CI A L.length c w gd dd ((List.range L.length).map fun v => .int .i64 (D v)) gb a A' m' c' l wr) (fun nv _ _ _ => (intOf nv).toNat)
  case atStart => exact ⟨N, p, [], _, _, _, _, rfl, hnb, rfl, rfl, by omega, by rw [HWI.out]; rfl, HPP.out, HCI.out⟩
  case round =>
    clear HCI HWI HNB hnb HIN HPI
    obtain ⟨z, a, l, A', m', c', gb, rfl, hzb, rfl, rfl, hm, hway, hpa, hci⟩ := hrel
    have HC := hid hci
    have HW := hid hway
    have HPA := hid hpa
    have r0 := hci.rb
    clear hci hway hpa
    by_cases hz : 1 < z
    · obtain ⟨s, hs⟩ : ∃ s : Nat, (s : Int) = z - 2 := ⟨(z - 2).toNat, by omega⟩
      have HT := hid (show (z - 1).toNat = s + 1 ∧ (z - 1 - 1).toNat = s ∧ ((s + 1 : Nat) : Int) = z - 1 by omega)
      clear hs
      go_wp2_with fail
      rename World => wo
      go_loopw [10, 36] (fun ov kv wr => ∃ (k : Nat), k ≤ L.length ∧ kv = .int .i64 ↑k ∧ ov = .slice A' m' c' ∧ (∀ j, j < k → okI L D (s + 1) a j = false) ∧ Ext wo wr) (fun _ kv _ => L.length - (intOf kv).toNat)
      case atStart => exact ⟨0, Nat.zero_le _, rfl, rfl, fun j hj => by omega, by repeat (first | exact Ext.refl _ | refine Ext.alloc ?_ _ | assumption | refine Ext.over ?_ _ | refine Ext.drew ?_ | refine Ext.drewN ?_ _)⟩
      case round =>
        obtain ⟨k, hk, rfl, rfl, hno, he⟩ := hrel
        have HNO := hid hno
        have HE := hid he
        have HCE := hid (HC.out.ext he)
        have r0 := HCE.out.rb
        have p0 := HCE.out.P.1
        have p1 := HCE.out.P.2.1
        clear hno he
        by_cases hlt : k < L.length
        · have hkt : (k : Int) < L.length := by omega
          have HRW := hid (HL.out.ext HCE.out.E)
          have HPJ := hid (HPK.out k hlt)
          obtain ⟨bk, off, hA, hc⟩ := HRW.out.t2 hlt
          obtain ⟨g0, g1⟩ := hc k hlt
          clear hc
          subst hA
          have HSKIP := hid (show okI L D (s + 1) a k = false → ∀ j, j < k + 1 → okI L D (s + 1) a j = false from fun h j hj => by
            by_cases hjk : j = k
            · rw [hjk]; exact h
            · exact HNO.out j (by omega))
          obtain ⟨bb, hbb⟩ : ∃ bb, bb = D k := ⟨_, rfl⟩
          have d0 : wr.cell? ⟨gd, k, none⟩ = some (.int .i64 bb) := by
            rw [HCE.out.D.cellAt k (by omega), List.getElem?_map, List.getElem?_range hlt, hbb]; rfl
          have HOKV := hid (show okI L D (s + 1) a k = ((bb == z - 1) && seesS L a (at2 L k)) by unfold okI; rw [← hbb, HT.out.2.2])
          clear hbb
          by_cases hb : bb = z - 1
          · have hbt : (bb == z - 1) = true := by simpa using hb
            replace hb := hid hb
            cases hse : seesS L a (at2 L k)
            case false =>
              have HS := hid (HSKIP.out (by rw [HOKV.out, hse, hbt]; rfl))
              go_wp2_with (go_at_call 39; refine (gives_b hse (HSE.out a (at2 L k) _ (HRW.out.ext (by repeat (first | exact Ext.refl _ | refine Ext.alloc ?_ _ | assumption | refine Ext.over ?_ _ | refine Ext.drew ?_ | refine Ext.drewN ?_ _))) HPA.out HPJ.out)).over.mono ?_; rintro e w' ⟨rfl, xw, rfl⟩)
              go_roundw
              case rel => exact ⟨k + 1, by omega, by go_num, rfl, HS.out, HE.out.trans (by repeat (first | exact Ext.refl _ | refine Ext.alloc ?_ _ | assumption | refine Ext.over ?_ _ | refine Ext.drew ?_ | refine Ext.drewN ?_ _))⟩
              case measure => simp [intOf]; omega
            case true =>
              have HY := hid (show okI L D (s + 1) a k = true by rw [HOKV.out, hse, hbt]; rfl)
              have x0 : (wr.alloc (.cells #[.int .i64 (at2 L k).a, .int .i64 (at2 L k).b] 35)).cell? ⟨wr.heap.size, 0, none⟩ = some (.int .i64 (at2 L k).a) := by go_simp
              have x1 : (wr.alloc (.cells #[.int .i64 (at2 L k).a, .int .i64 (at2 L k).b] 35)).cell? ⟨wr.heap.size, 1, none⟩ = some (.int .i64 (at2 L k).b) := by go_simp
              have X0 := hid x0
              have X1 := hid x1
              clear x0 x1
              have HSZ := hid (show w.heap.size + 1 ≤ (wr.alloc (.cells #[.int .i64 (at2 L k).a, .int .i64 (at2 L k).b] 35)).heap.size from by have := World.block_lt_of_cell? wr _ r0; simp at this ⊢; omega)
              have HO1 := hid (own_ext HCE.out.O (show Ext wr (wr.alloc (.cells #[.int .i64 (at2 L k).a, .int .i64 (at2 L k).b] 35)) by repeat (first | exact Ext.refl _ | refine Ext.alloc ?_ _ | assumption | refine Ext.over ?_ _ | refine Ext.drew ?_ | refine Ext.drewN ?_ _)))
              go_wp2_with (first | (go_at_call 39; refine (gives_b hse (HSE.out a (at2 L k) _ (HRW.out.ext (by repeat (first | exact Ext.refl _ | refine Ext.alloc ?_ _ | assumption | refine Ext.over ?_ _ | refine Ext.drew ?_ | refine Ext.drewN ?_ _))) HPA.out HPJ.out)).over.mono ?_; rintro e w' ⟨rfl, xw, rfl⟩) | (at_builtin; refine wpList_pushN rfl (.tmp 54) (.tmp 56) 28 rfl 3 Try.underlying28 info_intP rfl (by decide) (w.heap.size + 1) A' m' c' (vl l) rfl (wr.alloc (.cells #[.int .i64 (at2 L k).a, .int .i64 (at2 L k).b] 35)) HO1.out (by repeat (first | exact Ext.refl _ | refine Ext.alloc ?_ _ | assumption | refine Ext.over ?_ _ | refine Ext.drew ?_ | refine Ext.drewN ?_ _)) HSZ.out _ 1 1 [.int .i64 k] rfl rfl (lit_cells _ _ (by first | (simp; done) | simp [ovr_size]) _ _) (by intro u hu; simp at hu; subst hu; rfl) (by decide) (by omega) (by decide) ?_))
              intro A3 c3 w3 hown3 hg3 hn3
              have HC3 := hid ((HCE.out.ext (show Ext wr (wr.alloc (.cells #[.int .i64 (at2 L k).a, .int .i64 (at2 L k).b] 35)) by repeat (first | exact Ext.refl _ | refine Ext.alloc ?_ _ | assumption | refine Ext.over ?_ _ | refine Ext.drew ?_ | refine Ext.drewN ?_ _))).push hown3 hg3 (fun j hj => by have h := hn3 j hj; simpa using h))
              have hfar : some wr.heap.size ≠ (Value.slice A' m' c').ownBlock := fun h => by have h1 := (HCE.out.O.lt _ h.symm).2; omega
              have x0 := keep_new X0.out (Ext.refl _) hg3 hfar
              have x1 := keep_new X1.out (Ext.refl _) hg3 hfar
              obtain ⟨q0, q1, f0, f1⟩ := HC3.out.P
              have HC4 := hid (HC3.out.put (at2 L k))
              have HWN := hid (show wayN L (okI L D) (s + 1) a = k :: wayN L (okI L D) s (at2 L k) from wayN_some hlt HY.out HNO.out)
              clear hfar hown3 hg3 hn3 HC3 r0 p0 p1 d0 X0 X1 HO1
              go_wp2_with fail
              go_roundw
              case rel =>
                refine ⟨z - 1, at2 L k, l ++ [k], A3, m' + 1, c3, _, by go_num, by omega, rfl, rfl, by omega, ?_, HPJ.out, (by have h := HC4.out.box (t := 35); rw [World.size_setCell, World.size_setCell] at h; exact h)⟩
                rw [HT.out.2.1, List.append_assoc, List.singleton_append, ← HWN.out, ← HT.out.1]; exact HW.out
              case measure => simp [intOf]; omega
          · have hbt : (bb == z - 1) = false := by rw [beq_eq_false_iff_ne]; exact hb
            have HS := hid (HSKIP.out (by rw [HOKV.out, hbt]; rfl))
            clear hb
            go_wp2_with fail
            go_roundw
            case rel => exact ⟨k + 1, by omega, by go_num, rfl, HS.out, HE.out.trans (by repeat (first | exact Ext.refl _ | refine Ext.alloc ?_ _ | assumption | refine Ext.over ?_ _ | refine Ext.drew ?_ | refine Ext.drewN ?_ _))⟩
            case measure => simp [intOf]; omega
        · obtain rfl : k = L.length := by omega
          have HWN := hid (show wayN L (okI L D) (s + 1) a = wayN L (okI L D) s a from wayN_none HNO.out)
          go_wp2_with fail
          go_roundw
          case rel =>
            refine ⟨z - 1, a, l, A', m', c', _, by go_num, by omega, rfl, rfl, by omega, ?_, HPA.out, HCE.out.box⟩
            rw [HT.out.2.1, ← HWN.out, ← HT.out.1]; exact HW.out
          case measure => simp [intOf]; omega
    · have HWL := hid (show l = wayI L p q by rw [← HW.out, show (z - 1).toNat = 0 by omega]; simp [wayN])
      go_wp2_with fail
      go_ret2
      exact ⟨A', m', c', rfl, by rw [← HWL.out]; exact own_base (own_ext HC.out.O (by repeat (first | exact Ext.refl _ | refine Ext.alloc ?_ _ | assumption | refine Ext.over ?_ _ | refine Ext.drew ?_ | refine Ext.drewN ?_ _))) (by omega), HC.out.E.trans (by repeat (first | exact Ext.refl _ | refine Ext.alloc ?_ _ | assumption | refine Ext.over ?_ _ | refine Ext.drew ?_ | refine Ext.drewN ?_ _))⟩
/-- The way as both give it. -/
def cwL (L : List T2) (p q : T2) : List Int := if (isIn L p && isIn L q) = true then (wayS L p q).map fun (k : Nat) => (k : Int) else []
theorem cwL_val (L : List T2) (p q : T2) : (cwL L p q).map (Value.int .i64) = vl (if (isIn L p && isIn L q) = true then wayS L p q else []) := by
  unfold cwL vl
  split <;> simp
theorem cwL_len (L : List T2) (p q : T2) : (cwL L p q).length ≤ L.length + 1 := by
  unfold cwL
  split
  · rw [List.length_map]
    have h1 := wayN_len L (okS L q) (nOf L p q) p
    have h2 := bestS_bound L q p
    unfold wayS nOf at *
    omega
  · simp
theorem iWay_at (A : Option Addr) (n c : Nat) (L : List T2) (pa pb qa qb : Int) (w : World) (hl : Row w A (L.flatMap T2.v)) (hn : L.length = n) (hx : n ≤ 1048577)
    {b : Bool} (hb : (isIn L ⟨pa, pb⟩ && isIn L ⟨qa, qb⟩) = b) : Calls Try.prog 10 #[.agg #[.slice A n c], .agg #[.int .i64 pa, .int .i64 pb], .agg #[.int .i64 qa, .int .i64 qb]] w fun en w' => ∃ A' m' c', en = .returned (.tuple #[.slice A' m' c', .bool b]) ∧ w'.ownsRow w.heap.size 3 1 (.slice A' m' c') m' ((cwL L ⟨pa, pb⟩ ⟨qa, qb⟩).map (Value.int .i64)) ∧ Ext w w' := by
  have h := iWay_any A n c L ⟨pa, pb⟩ ⟨qa, qb⟩ w hl hn hx
  subst hb
  rw [cwL_val]
  try rw [ways] at h
  exact h
theorem sWay_at (A : Option Addr) (n c : Nat) (L : List T2) (pa pb qa qb : Int) (w : World) (hl : Row w A (L.flatMap T2.v)) (hn : L.length = n) (hx : n ≤ 1048577)
    {b : Bool} (hb : (isIn L ⟨pa, pb⟩ && isIn L ⟨qa, qb⟩) = b) : Calls Try.prog 7 #[.agg #[.slice A n c], .agg #[.int .i64 pa, .int .i64 pb], .agg #[.int .i64 qa, .int .i64 qb]] w fun en w' => ∃ A' m' c', en = .returned (.tuple #[.slice A' m' c', .bool b]) ∧ w'.ownsRow w.heap.size 3 1 (.slice A' m' c') m' ((cwL L ⟨pa, pb⟩ ⟨qa, qb⟩).map (Value.int .i64)) ∧ Ext w w' := by
  have h := sWay_any A n c L ⟨pa, pb⟩ ⟨qa, qb⟩ w hl hn hx
  subst hb
  rw [cwL_val]
  try rw [ways] at h
  exact h
end Go.Proofs.Ytkifapcegiajiaa
