/- Walks: the reference's way along corners. Conditions: a valid room. -/
import Derived.Test.YtkifapcegiajiaaBestS
import Derived.Test.YtkifapcegiajiaaIn
namespace Go.Proofs.Ytkifapcegiajiaa
open Go.RowKit
set_option linter.unusedVariables false

section
variable {P : Program} {w : World} {ops : Array Oper} {rest : List Oper} {o : Oper} {a : Act} {Q : Exit → Act → World → Prop}
/-- append of cells that lie in memory to a row that the call owns: only that row has changed. -/
theorem wpList_pushH (hgd : o.guard = none) (s x : Operand) (t : TypeId)
    (ho : o.op = .call { callee := .builtin .append, args := #[s, x], argTypes := #[t, t] })
    (e : TypeId) {z : Value} {size bytes : Nat} (ht : P.underlying t = some (.slice e)) (hinfo : (P.info? e).map (fun i => (i.zero, i.size, i.bytes)) = some (some z, size, bytes)) (hzs : z.cells.size = size) (hsz : 0 < size)
    (base : Nat) (A : Option Addr) (n c : Nat) (xs : List Value) (hs : a.eval s = .slice A n c) (w0 : World) (hown : w0.ownsRow base e size (.slice A n c) n xs) (he0 : Ext w0 w) (hbase : base ≤ w0.heap.size)
    (ad : Addr) (m c' : Nat) (news : List Value) (hx : a.eval x = .slice (some ad) m c') (hl : news.length = m * size) (hnews : ∀ j u, news[j]? = some u → w.cell? (ad.add j) = some u) (h1 : ∀ u ∈ news, u.oneCell' = true)
    (h63 : n + m ≤ 1000000000000) (hby : bytes ≤ 100)
    (h : ∀ A' c' w', w'.ownsRow base e size (.slice A' (n + m) c') (n + m) (xs ++ news) → w.grownBy w' (Value.slice A n c).ownBlock → wpList P ops Q rest (a.put o.dst (.slice A' (n + m) c')) w') : wpList P ops Q (o :: rest) a w := by
  obtain ⟨i, hi, hz0, hz1, hz2⟩ := info_parts hinfo
  have hs0 := he0.size
  refine wpList_append_own w hgd s x t ho base e i z size bytes ht hi hz0 hz1 hz2 hzs hsz _ n xs hs (own_ext hown he0) ad m c' news hx hl hnews h1 (by unfold maxLen; omega) ?_ (by omega) ?_
  · have := Nat.mul_le_mul h63 hby; omega
  · intro v' w' hw' hg _
    obtain ⟨A', c', rfl⟩ := own_form hw'
    exact h A' c' w' hw' hg
end
theorem keep_new {wx W w3 : World} {row : Option Nat} {a : Addr} {u : Value} (hx : wx.cell? a = some u) (e : Ext wx W) (hg : W.grownBy w3 row) (hne : some a.block ≠ row) : w3.cell? a = some u :=
  (World.cell?_of_block (hg.block _ (World.block_lt_of_cell? W _ (old_cell e hx)) hne)).trans (old_cell e hx)
theorem own_farS {w : World} {base n size : Nat} {e : TypeId} {v : Value} {cs : List Value} (h : w.ownsRow base e size v n cs) {p : Addr} (hp : p.block < base) (u : Value) : (w.setCell p u).ownsRow base e size v n cs :=
  h.kept (only_setCell (World.grownBy.refl _ _) (g := p.block) (.inl rfl) u) (.inr fun h1 => by have := (h.lt _ h1).1; omega)
/-- The boxes of the way: the room, the point where one stands, the aim. -/
structure Cw (A : Option Addr) (n c : Nat) (q : T2) (w wr : World) (a : T2) : Prop where
  E : Ext w wr
  rb : wr.cell? ⟨w.heap.size, 0, none⟩ = some (.slice A n c)
  pb : Two wr (w.heap.size + 1) a.a a.b
  q0 : wr.cell? ⟨w.heap.size + 1 + 1, 0, none⟩ = some (.int .i64 q.a)
  q1 : wr.cell? ⟨w.heap.size + 1 + 1, 1, none⟩ = some (.int .i64 q.b)
theorem Cw.size {A : Option Addr} {n c : Nat} {q a : T2} {w wr : World} (h : Cw A n c q w wr a) : w.heap.size + 3 ≤ wr.heap.size := World.block_lt_of_cell? wr _ h.q0
theorem Cw.ext {A : Option Addr} {n c : Nat} {q a : T2} {w wr w' : World} (h : Cw A n c q w wr a) (e : Ext wr w') : Cw A n c q w w' a :=
  ⟨h.E.trans e, old_cell e h.rb, h.pb.ext e, old_cell e h.q0, old_cell e h.q1⟩
theorem Cw.grown {A : Option Addr} {n c : Nat} {q a : T2} {w wr w' : World} (h : Cw A n c q w wr a) {row : Option Nat} (hg : wr.grownBy w' row) (hk : ∀ k, row = some k → w.heap.size + 3 ≤ k) : Cw A n c q w w' a := by
  have hs := h.size
  have blk : ∀ b, b < w.heap.size + 3 → w'.heap[b]? = wr.heap[b]? := fun b hb => hg.block b (by omega) (fun e => by have := hk b e.symm; omega)
  obtain ⟨p0, p1, f0, f1⟩ := h.pb
  have b1 := blk (w.heap.size + 1) (by omega)
  refine ⟨Below.grown h.E hg h.E.size (fun j hj => by have := hk j hj; omega), (World.cell?_of_block (blk _ (by show w.heap.size < _; omega))).trans h.rb, ⟨(World.cell?_of_block b1).trans p0, (World.cell?_of_block b1).trans p1, (World.frozen?_of_block b1).trans f0, (World.frozen?_of_block b1).trans f1⟩, (World.cell?_of_block (blk _ (by show w.heap.size + 1 + 1 < _; omega))).trans h.q0, (World.cell?_of_block (blk _ (by show w.heap.size + 1 + 1 < _; omega))).trans h.q1⟩
theorem Cw.put {A : Option Addr} {n c : Nat} {q a : T2} {w wr : World} (h : Cw A n c q w wr a) (x : T2) : Cw A n c q w ((wr.setCell ⟨w.heap.size + 1, 0, none⟩ (.int .i64 x.a)).setCell ⟨w.heap.size + 1, 1, none⟩ (.int .i64 x.b)) x := by
  refine ⟨(h.E.setCell (by exact Nat.le_succ _) _).setCell (by exact Nat.le_succ _) _, ?_, h.pb.put, ?_, ?_⟩
  · have := h.rb; go_simp
  · have := h.q0; go_simp
  · have := h.q1; go_simp
theorem bestS_bound (L : List T2) (q p : T2) : -1 ≤ bestS L q p ∧ bestS L q p ≤ L.length + 1 := by
  unfold bestS
  split
  · omega
  · split
    · omega
    · exact bestD_bound (fun k => distF_bound L L q k) (by omega) _
set_option maxHeartbeats 1600000 in
set_option maxRecDepth 100000 in
theorem sWay_any (A : Option Addr) (n c : Nat) (L : List T2) (p q : T2) (w : World) (hl : Row w A (L.flatMap T2.v)) (hn : L.length = n) (hx : n ≤ 1048577) :
    Calls Try.prog 7 #[.agg #[.slice A n c], ptV p, ptV q] w fun en w' => ∃ A' m' c', en = .returned (.tuple #[.slice A' m' c', .bool (isIn L p && isIn L q)]) ∧ w'.ownsRow w.heap.size 3 1 (.slice A' m' c') m' (vl (if (isIn L p && isIn L q) = true then wayS L p q else [])) ∧ Ext w w' := by
  have HIN := hid (fun a w' (h : Row w' A (L.flatMap T2.v)) => sIsIn_any A n c L a w' h hn hx)
  have HL := hid hl
  clear hl
  unfold ptV at *
  have HO0 := hid (own_empty (((w.alloc (.cells #[.slice A n c] 33)).alloc (.cells #[.int .i64 p.a, .int .i64 p.b] 35)).alloc (.cells #[.int .i64 q.a, .int .i64 q.b] 35)) (w.heap.size + 1 + 1 + 1) (w.heap.size + 3) (by simp) (by simp) 3 1)
  cases hip : isIn L p
  · go_enter Try.func7, Try.ntmps7
    go_wp2_with (go_at_call 33; refine (gives_b hip (HIN.out p _ (HL.out.ext (by repeat (first | exact Ext.refl _ | refine Ext.alloc ?_ _ | assumption | refine Ext.over ?_ _ | refine Ext.drew ?_ | refine Ext.drewN ?_ _))))).over.mono ?_; rintro e w' ⟨rfl, xw, rfl⟩)
    go_ret2
    exact ⟨_, _, _, rfl, own_base (own_ext HO0.out (by repeat (first | exact Ext.refl _ | refine Ext.alloc ?_ _ | assumption | refine Ext.over ?_ _ | refine Ext.drew ?_ | refine Ext.drewN ?_ _))) (by omega), by repeat (first | exact Ext.refl _ | refine Ext.alloc ?_ _ | assumption | refine Ext.over ?_ _ | refine Ext.drew ?_ | refine Ext.drewN ?_ _)⟩
  cases hiq : isIn L q
  · go_enter Try.func7, Try.ntmps7
    go_wp2_with (go_at_call 33; refine (gives_b hip (HIN.out p _ (HL.out.ext (by repeat (first | exact Ext.refl _ | refine Ext.alloc ?_ _ | assumption | refine Ext.over ?_ _ | refine Ext.drew ?_ | refine Ext.drewN ?_ _))))).over.mono ?_; rintro e w' ⟨rfl, xw, rfl⟩)
    refine (gives_b hiq (HIN.out q _ (HL.out.ext (by repeat (first | exact Ext.refl _ | refine Ext.alloc ?_ _ | assumption | refine Ext.over ?_ _ | refine Ext.drew ?_ | refine Ext.drewN ?_ _))))).mono ?_
    rintro _ w2 ⟨rfl, e2⟩
    go_wp2_with fail
    go_ret2
    exact ⟨_, _, _, rfl, own_base (own_ext HO0.out (Ext.trans (by repeat (first | exact Ext.refl _ | refine Ext.alloc ?_ _ | assumption | refine Ext.over ?_ _ | refine Ext.drew ?_ | refine Ext.drewN ?_ _)) (e2.trans (by repeat (first | exact Ext.refl _ | refine Ext.alloc ?_ _ | assumption | refine Ext.over ?_ _ | refine Ext.drew ?_ | refine Ext.drewN ?_ _))))) (by omega), Ext.trans (by repeat (first | exact Ext.refl _ | refine Ext.alloc ?_ _ | assumption | refine Ext.over ?_ _ | refine Ext.drew ?_ | refine Ext.drewN ?_ _)) (e2.trans (by repeat (first | exact Ext.refl _ | refine Ext.alloc ?_ _ | assumption | refine Ext.over ?_ _ | refine Ext.drew ?_ | refine Ext.drewN ?_ _)))⟩
  have hro := (isIn_room hip).1
  have HSE := hid (fun a b w' (h : Row w' A (L.flatMap T2.v)) => l08Sees_any A n c L a b w' h hn hro)
  have HBE := hid (fun a w' (h : Row w' A (L.flatMap T2.v)) => l21Best_any A n c L a q w' h hn hro)
  have hn10 : n ≤ 10 := by have := (roomP_of hro).hi; omega
  unfold ptV at *
  have HC0 := hid (show Cw A n c q w (((w.alloc (.cells #[.slice A n c] 33)).alloc (.cells #[.int .i64 p.a, .int .i64 p.b] 35)).alloc (.cells #[.int .i64 q.a, .int .i64 q.b] 35)) p from ⟨by repeat (first | exact Ext.refl _ | refine Ext.alloc ?_ _ | assumption | refine Ext.over ?_ _ | refine Ext.drew ?_ | refine Ext.drewN ?_ _), by go_simp, ⟨by go_simp, by go_simp, by go_simp, by go_simp⟩, by go_simp, by go_simp⟩)
  subst hn
  go_enter Try.func7, Try.ntmps7
  go_wp2_with (go_at_call 33; refine (gives_b hip (HIN.out p _ (HL.out.ext (by repeat (first | exact Ext.refl _ | refine Ext.alloc ?_ _ | assumption | refine Ext.over ?_ _ | refine Ext.drew ?_ | refine Ext.drewN ?_ _))))).over.mono ?_; rintro e w' ⟨rfl, xw, rfl⟩)
  refine (gives_b hiq (HIN.out q _ (HL.out.ext (by repeat (first | exact Ext.refl _ | refine Ext.alloc ?_ _ | assumption | refine Ext.over ?_ _ | refine Ext.drew ?_ | refine Ext.drewN ?_ _))))).mono ?_
  rintro _ w2 ⟨rfl, e2⟩
  have HC2 := hid (HC0.out.ext (Ext.trans (by repeat (first | exact Ext.refl _ | refine Ext.alloc ?_ _ | assumption | refine Ext.over ?_ _ | refine Ext.drew ?_ | refine Ext.drewN ?_ _)) e2))
  have HO2 := hid (own_ext HO0.out (Ext.trans (by repeat (first | exact Ext.refl _ | refine Ext.alloc ?_ _ | assumption | refine Ext.over ?_ _ | refine Ext.drew ?_ | refine Ext.drewN ?_ _)) e2))
  clear e2 HC0 HO0
  have r0 := HC2.out.rb
  have p0 := HC2.out.pb.1
  have p1 := HC2.out.pb.2.1
  have q0 := HC2.out.q0
  have q1 := HC2.out.q1
  obtain ⟨N, hN⟩ : ∃ N, N = bestS L q p := ⟨_, rfl⟩
  have HBP := hid (fun w' (h : Row w' A (L.flatMap T2.v)) => gives_v hN.symm (HBE.out p w' h))
  have HNB := hid (show -1 ≤ N ∧ N ≤ L.length + 1 by rw [hN]; exact bestS_bound L q p)
  have HWS := hid (show wayN L (okS L q) (N - 1).toNat p = wayS L p q by unfold wayS nOf; rw [hN])
  have hnb := HNB.out
  clear hN
  go_wp2_with (go_at_call 34; refine (HBP.out _ (HL.out.ext (HC2.out.E.trans (by repeat (first | exact Ext.refl _ | refine Ext.alloc ?_ _ | assumption | refine Ext.over ?_ _ | refine Ext.drew ?_ | refine Ext.drewN ?_ _))))).over.mono ?_; rintro e w' ⟨rfl, xw, rfl⟩)
  go_loopw [8, 9] (fun ov nv wr => ∃ (z : Int) (a : T2) (l : List Nat) (A' : Option Addr) (m' c' : Nat), nv = .int .i64 z ∧ (-1 ≤ z ∧ z ≤ L.length + 1) ∧ ov = .slice A' m' c' ∧ m' + (z - 1).toNat ≤ 11 ∧ l ++ wayN L (okS L q) (z - 1).toNat a = wayS L p q ∧ wr.ownsRow (w.heap.size + 3) 3 1 (.slice A' m' c') m' (vl l) ∧ Cw A L.length c q w wr a) (fun _ nv _ => (intOf nv).toNat)
  case atStart => exact ⟨N, p, [], _, _, _, rfl, hnb, rfl, by omega, by rw [HWS.out]; rfl, own_ext HO2.out (by repeat (first | exact Ext.refl _ | refine Ext.alloc ?_ _ | assumption | refine Ext.over ?_ _ | refine Ext.drew ?_ | refine Ext.drewN ?_ _)), HC2.out.ext (by repeat (first | exact Ext.refl _ | refine Ext.alloc ?_ _ | assumption | refine Ext.over ?_ _ | refine Ext.drew ?_ | refine Ext.drewN ?_ _))⟩
  case round =>
    clear HC2 HO2 r0 p0 p1 q0 q1 HBP HWS HNB hnb
    obtain ⟨z, a, l, A', m', c', rfl, hzb, rfl, hm, hway, hown, hcw⟩ := hrel
    have HO := hid hown
    have HC := hid hcw
    have HW := hid hway
    have r0 := hcw.rb
    clear hown hcw hway
    by_cases hz : 1 < z
    · obtain ⟨s, hs⟩ : ∃ s : Nat, (s : Int) = z - 2 := ⟨(z - 2).toNat, by omega⟩
      have HT := hid (show (z - 1).toNat = s + 1 ∧ (z - 1 - 1).toNat = s ∧ ((s + 1 : Nat) : Int) = z - 1 by omega)
      clear hs
      go_wp2_with fail
      rename World => wo
      go_loopw [8, 10] (fun ov kv wr => ∃ (k : Nat), k ≤ L.length ∧ kv = .int .i64 ↑k ∧ ov = .slice A' m' c' ∧ (∀ j, j < k → okS L q (s + 1) a j = false) ∧ Ext wo wr) (fun _ kv _ => L.length - (intOf kv).toNat)
      case atStart => exact ⟨0, Nat.zero_le _, rfl, rfl, fun j hj => by omega, by repeat (first | exact Ext.refl _ | refine Ext.alloc ?_ _ | assumption | refine Ext.over ?_ _ | refine Ext.drew ?_ | refine Ext.drewN ?_ _)⟩
      case round =>
        obtain ⟨k, hk, rfl, rfl, hno, he⟩ := hrel
        have HNO := hid hno
        have HE := hid he
        have HCE := hid (HC.out.ext he)
        have r0 := HCE.out.rb
        have p0 := HCE.out.pb.1
        have p1 := HCE.out.pb.2.1
        have q0 := HCE.out.q0
        have q1 := HCE.out.q1
        clear hno he
        by_cases hlt : k < L.length
        · have hkt : (k : Int) < L.length := by omega
          have HRW := hid (HL.out.ext HCE.out.E)
          obtain ⟨bk, off, hA, hc⟩ := HRW.out.t2 hlt
          obtain ⟨g0, g1⟩ := hc k hlt
          clear hc
          subst hA
          have HSKIP := hid (show okS L q (s + 1) a k = false → ∀ j, j < k + 1 → okS L q (s + 1) a j = false from fun h j hj => by
            by_cases hjk : j = k
            · rw [hjk]; exact h
            · exact HNO.out j (by omega))
          cases heq : eqP (at2 L k) a
          case true =>
            have hx := eqP_iff.1 heq
            have HS := hid (HSKIP.out (by unfold okS; rw [heq]; rfl))
            have e1 : ((at2 L k).a == a.a) = true := by rw [hx]; simp
            have e2 : ((at2 L k).b == a.b) = true := by rw [hx]; simp
            clear hx heq
            generalize (at2 L k).a = xa at *
            generalize (at2 L k).b = xb at *
            go_wp2_with fail
            go_roundw
            case rel => exact ⟨k + 1, by omega, by go_num, rfl, HS.out, HE.out.trans (by repeat (first | exact Ext.refl _ | refine Ext.alloc ?_ _ | assumption | refine Ext.over ?_ _ | refine Ext.drew ?_ | refine Ext.drewN ?_ _))⟩
            case measure => simp [intOf]; omega
          case false =>
            have hcase : ((at2 L k).a == a.a) = false ∨ (((at2 L k).a == a.a) = true ∧ ((at2 L k).b == a.b) = false) := by
              by_cases ha : (at2 L k).a = a.a
              · refine .inr ⟨by simpa using ha, ?_⟩
                rw [beq_eq_false_iff_ne]
                intro hb
                have h3 : at2 L k = a := by
                  obtain ⟨u, hu⟩ : ∃ u, u = at2 L k := ⟨_, rfl⟩
                  rw [← hu] at ha hb ⊢
                  cases u; cases a; simp only at ha hb; rw [ha, hb]
                rw [eqP_iff.2 h3] at heq
                cases heq
              · exact .inl (by rw [beq_eq_false_iff_ne]; exact ha)
            obtain ⟨bb, hbb⟩ : ∃ bb, bb = bestS L q (at2 L k) := ⟨_, rfl⟩
            have HBK := hid (fun w' (h : Row w' (some ⟨bk, off, none⟩) (L.flatMap T2.v)) => gives_v hbb.symm (HBE.out (at2 L k) w' h))
            have hbd := bestS_bound L q (at2 L k)
            rw [← hbb] at hbd
            have HOKV := hid (show okS L q (s + 1) a k = (seesS L a (at2 L k) && (bb == z - 1)) by unfold okS; rw [heq, ← hbb, HT.out.2.2]; rfl)
            clear heq hbb
            rcases hcase with e1 | ⟨e1, e2⟩
            all_goals
              cases hse : seesS L a (at2 L k)
              case false =>
                have HS := hid (HSKIP.out (by rw [HOKV.out, hse]; rfl))
                go_wp2_with (go_at_call 35; refine (gives_b hse (HSE.out a (at2 L k) _ (HRW.out.ext (by repeat (first | exact Ext.refl _ | refine Ext.alloc ?_ _ | assumption | refine Ext.over ?_ _ | refine Ext.drew ?_ | refine Ext.drewN ?_ _))))).over.mono ?_; rintro e w' ⟨rfl, xw, rfl⟩)
                go_roundw
                case rel => exact ⟨k + 1, by omega, by go_num, rfl, HS.out, HE.out.trans (by repeat (first | exact Ext.refl _ | refine Ext.alloc ?_ _ | assumption | refine Ext.over ?_ _ | refine Ext.drew ?_ | refine Ext.drewN ?_ _))⟩
                case measure => simp [intOf]; omega
              case true =>
                by_cases hb : bb = z - 1
                · have HY := hid (show okS L q (s + 1) a k = true by rw [HOKV.out, hse, hb]; simp)
                  have hbt : (bb == z - 1) = true := by simpa using hb
                  replace hb := hid hb
                  have hwz := HCE.out.size
                  have x0 : (wr.alloc (.cells #[.int .i64 (at2 L k).a, .int .i64 (at2 L k).b] 35)).cell? ⟨wr.heap.size, 0, none⟩ = some (.int .i64 (at2 L k).a) := by go_simp
                  have x1 : (wr.alloc (.cells #[.int .i64 (at2 L k).a, .int .i64 (at2 L k).b] 35)).cell? ⟨wr.heap.size, 1, none⟩ = some (.int .i64 (at2 L k).b) := by go_simp
                  have X0 := hid x0
                  have X1 := hid x1
                  clear x0 x1
                  have HWS := hid (World.grownBy.refl wr none).size
                  go_wp2_with (first | (go_at_call 35; refine (gives_b hse (HSE.out a (at2 L k) _ (HRW.out.ext (by repeat (first | exact Ext.refl _ | refine Ext.alloc ?_ _ | assumption | refine Ext.over ?_ _ | refine Ext.drew ?_ | refine Ext.drewN ?_ _))))).over.mono ?_; rintro e w' ⟨rfl, xw, rfl⟩) | (go_at_call 34; refine (HBK.out _ (HRW.out.ext (by repeat (first | exact Ext.refl _ | refine Ext.alloc ?_ _ | assumption | refine Ext.over ?_ _ | refine Ext.drew ?_ | refine Ext.drewN ?_ _)))).over.mono ?_; rintro e w' ⟨rfl, xw, rfl⟩) | (at_builtin; refine wpList_pushH rfl (.tmp 63) (.tmp 65) 28 rfl 3 Try.underlying28 info_intP rfl (by decide) (w.heap.size + 3) A' m' c' (vl l) rfl wo HO.out (HE.out.trans (by repeat (first | exact Ext.refl _ | refine Ext.alloc ?_ _ | assumption | refine Ext.over ?_ _ | refine Ext.drew ?_ | refine Ext.drewN ?_ _))) (HC.out.size) _ 1 1 [.int .i64 k] rfl rfl (lit_cells _ _ (by first | (simp; done) | simp [ovr_size]) _ _) (by intro u hu; simp at hu; subst hu; rfl) (by omega) (by decide) ?_))
                  intro A3 c3 w3 hown3 hg3
                  have HC3 := hid ((HCE.out.ext (by repeat (first | exact Ext.refl _ | refine Ext.alloc ?_ _ | assumption | refine Ext.over ?_ _ | refine Ext.drew ?_ | refine Ext.drewN ?_ _))).grown hg3 (fun j hj => (HO.out.lt j hj).1))
                  have hfar : some wr.heap.size ≠ (Value.slice A' m' c').ownBlock := fun h => by have h1 := (HO.out.lt _ h.symm).2; have h2 := HE.out.size; omega
                  have x0 := keep_new X0.out (by repeat (first | exact Ext.refl _ | refine Ext.alloc ?_ _ | assumption | refine Ext.over ?_ _ | refine Ext.drew ?_ | refine Ext.drewN ?_ _)) hg3 hfar
                  have x1 := keep_new X1.out (by repeat (first | exact Ext.refl _ | refine Ext.alloc ?_ _ | assumption | refine Ext.over ?_ _ | refine Ext.drew ?_ | refine Ext.drewN ?_ _)) hg3 hfar
                  obtain ⟨c0, c1, f0, f1⟩ := HC3.out.pb
                  have HO3 := hid (show ((w3.setCell ⟨w.heap.size + 1, 0, none⟩ (.int .i64 (at2 L k).a)).setCell ⟨w.heap.size + 1, 1, none⟩ (.int .i64 (at2 L k).b)).ownsRow (w.heap.size + 3) 3 1 (.slice A3 (m' + 1) c3) (m' + 1) (vl (l ++ [k])) by
                    rw [vl_snoc]; exact own_farS (own_farS hown3 (p := ⟨w.heap.size + 1, 0, none⟩) (by show w.heap.size + 1 < _; omega) _) (p := ⟨w.heap.size + 1, 1, none⟩) (by show w.heap.size + 1 < _; omega) _)
                  have HC4 := hid (HC3.out.put (at2 L k))
                  have HWN := hid (show wayN L (okS L q) (s + 1) a = k :: wayN L (okS L q) s (at2 L k) from wayN_some hlt HY.out HNO.out)
                  clear hfar hown3 hg3 HC3 r0 p0 p1 q0 q1 X0 X1
                  go_wp2_with fail
                  go_roundw
                  case rel =>
                    refine ⟨z - 1, at2 L k, l ++ [k], A3, m' + 1, c3, by go_num, by omega, rfl, by omega, ?_, own_ext HO3.out (by repeat (first | exact Ext.refl _ | refine Ext.alloc ?_ _ | assumption | refine Ext.over ?_ _ | refine Ext.drew ?_ | refine Ext.drewN ?_ _)), HC4.out.ext (by repeat (first | exact Ext.refl _ | refine Ext.alloc ?_ _ | assumption | refine Ext.over ?_ _ | refine Ext.drew ?_ | refine Ext.drewN ?_ _))⟩
                    rw [HT.out.2.1, List.append_assoc, List.singleton_append, ← HWN.out, ← HT.out.1]; exact HW.out
                  case measure => simp [intOf]; omega
                · have hbt : (bb == z - 1) = false := by rw [beq_eq_false_iff_ne]; exact hb
                  have HS := hid (HSKIP.out (by rw [HOKV.out, hse, hbt]; rfl))
                  clear hb
                  go_wp2_with (first | (go_at_call 35; refine (gives_b hse (HSE.out a (at2 L k) _ (HRW.out.ext (by repeat (first | exact Ext.refl _ | refine Ext.alloc ?_ _ | assumption | refine Ext.over ?_ _ | refine Ext.drew ?_ | refine Ext.drewN ?_ _))))).over.mono ?_; rintro e w' ⟨rfl, xw, rfl⟩) | (go_at_call 34; refine (HBK.out _ (HRW.out.ext (by repeat (first | exact Ext.refl _ | refine Ext.alloc ?_ _ | assumption | refine Ext.over ?_ _ | refine Ext.drew ?_ | refine Ext.drewN ?_ _)))).over.mono ?_; rintro e w' ⟨rfl, xw, rfl⟩))
                  go_roundw
                  case rel => exact ⟨k + 1, by omega, by go_num, rfl, HS.out, HE.out.trans (by repeat (first | exact Ext.refl _ | refine Ext.alloc ?_ _ | assumption | refine Ext.over ?_ _ | refine Ext.drew ?_ | refine Ext.drewN ?_ _))⟩
                  case measure => simp [intOf]; omega
        · obtain rfl : k = L.length := by omega
          have HWN := hid (show wayN L (okS L q) (s + 1) a = wayN L (okS L q) s a from wayN_none HNO.out)
          go_wp2_with fail
          go_roundw
          case rel =>
            refine ⟨z - 1, a, l, A', m', c', by go_num, by omega, rfl, by omega, ?_, own_ext HO.out (HE.out.trans (by repeat (first | exact Ext.refl _ | refine Ext.alloc ?_ _ | assumption | refine Ext.over ?_ _ | refine Ext.drew ?_ | refine Ext.drewN ?_ _))), HCE.out.ext (by repeat (first | exact Ext.refl _ | refine Ext.alloc ?_ _ | assumption | refine Ext.over ?_ _ | refine Ext.drew ?_ | refine Ext.drewN ?_ _))⟩
            rw [HT.out.2.1, ← HWN.out, ← HT.out.1]; exact HW.out
          case measure => simp [intOf]; omega
    · have HWL := hid (show l = wayS L p q by rw [← HW.out, show (z - 1).toNat = 0 by omega]; simp [wayN])
      go_wp2_with fail
      go_ret2
      exact ⟨A', m', c', rfl, by rw [← HWL.out]; exact own_base (own_ext HO.out (by repeat (first | exact Ext.refl _ | refine Ext.alloc ?_ _ | assumption | refine Ext.over ?_ _ | refine Ext.drew ?_ | refine Ext.drewN ?_ _))) (by omega), HC.out.E.trans (by repeat (first | exact Ext.refl _ | refine Ext.alloc ?_ _ | assumption | refine Ext.over ?_ _ | refine Ext.drew ?_ | refine Ext.drewN ?_ _))⟩
end Go.Proofs.Ytkifapcegiajiaa
