/- Walks: the reference's sight. Conditions: a valid room. -/
import Derived.Test.YtkifapcegiajiaaSeesI
import Derived.Test.YtkifapcegiajiaaPushN
namespace Go.Proofs.Ytkifapcegiajiaa
open Go.RowKit
set_option linter.unusedVariables false

theorem allN_succ (n : Nat) (p : Nat → Bool) : allN (n + 1) p = (allN n p && p n) := by simp [allN, List.range_succ]
def freeJ (cs : List T2) (i k j : Nat) : Bool := allN j fun j => (j == i) || (j == k) || !onP (at2 cs j) (at2 cs i) (at2 cs k)
theorem sees_cross {L : List T2} {a b : T2} {k : Nat} (hk : k < L.length) (h : crossP a b (at2 L k) (nxt L k) = true) : seesS L a b = false := seesS_cross hk h
set_option maxHeartbeats 3200000 in
set_option maxRecDepth 100000 in
theorem l08Sees_any (A : Option Addr) (n c : Nat) (L : List T2) (a b : T2) (w : World) (hl : Row w A (L.flatMap T2.v)) (hn : L.length = n) (hr : roomS L = true) : Gives Try.prog 35 #[.slice A n c, ptV a, ptV b] w (.bool (seesS L a b)) := by
  subst hn
  have hp := roomP_of hr
  have h10 := hp.hi
  have HL := hid hl
  clear hl hr hp
  obtain ⟨aa, ab⟩ := a
  obtain ⟨ba, bb⟩ := b
  unfold ptV
  (unfold Gives; go_enter Try.func35, Try.ntmps35)
  go_wp2_with fail
  obtain ⟨wt, hwt⟩ : ∃ wt, wt = (w.alloc (.cells #[.int .i64 aa, .int .i64 ab] 35)).alloc (.cells #[.int .i64 ba, .int .i64 bb] 35) := ⟨_, rfl⟩
  have het : Ext w wt := by rw [hwt]; repeat (first | exact Ext.refl _ | refine Ext.alloc ?_ _ | assumption | refine Ext.over ?_ _ | refine Ext.drew ?_ | refine Ext.drewN ?_ _)
  have b1 : wt.cell? ⟨w.heap.size, 0, none⟩ = some (.int .i64 aa) := by rw [hwt]; go_simp
  have b2 : wt.cell? ⟨w.heap.size, 1, none⟩ = some (.int .i64 ab) := by rw [hwt]; go_simp
  have b3 : wt.cell? ⟨w.heap.size + 1, 0, none⟩ = some (.int .i64 ba) := by rw [hwt]; go_simp
  have b4 : wt.cell? ⟨w.heap.size + 1, 1, none⟩ = some (.int .i64 bb) := by rw [hwt]; go_simp
  have HT := hid het
  have hsz : w.heap.size + 1 + 1 = wt.heap.size := by rw [hwt]; simp
  have HO1 := hid (own_ext (own_two wt _ _ hsz (Nat.le_refl _) 35 ⟨aa, ab⟩ ⟨ba, bb⟩) (show Ext _ ((wt.alloc (.cells #[.int .i64 aa, .int .i64 ab, .int .i64 ba, .int .i64 bb] 35)).alloc (.cells #[] 35)) by repeat (first | exact Ext.refl _ | refine Ext.alloc ?_ _ | assumption | refine Ext.over ?_ _ | refine Ext.drew ?_ | refine Ext.drewN ?_ _)))
  have HO2 := hid (own_empty (wt.alloc (.cells #[.int .i64 aa, .int .i64 ab, .int .i64 ba, .int .i64 bb] 35)) (w.heap.size + 1 + 1 + 1) wt.heap.size (by simp; omega) (by simp) 35 2)
  have HNE0 := hid (show w.heap.size + 1 + 1 + 1 ≠ w.heap.size + 1 + 1 by omega)
  rw [← hwt]
  generalize w.heap.size = gr at b1 b2 b3 b4 HO1 HO2 HNE0 ⊢
  clear hwt het hsz
  generalize Value.agg #[.int .i64 aa, .int .i64 ab] = va
  generalize Value.agg #[.int .i64 ba, .int .i64 bb] = vb
  go_loopw [8, 9, 10] (fun cv bv kv wr => ∃ (k : Nat) (A1 : Option Addr) (m c1 : Nat) (A2 : Option Addr) (c2 : Nat), k ≤ L.length ∧ kv = .int .i64 ↑k ∧ cv = .slice A1 m c1 ∧ bv = .slice A2 k c2 ∧ wr.ownsRow wt.heap.size 35 2 (.slice A1 m c1) m ((cutsL L ⟨aa, ab⟩ ⟨ba, bb⟩ k).flatMap T2.v) ∧ wr.ownsRow wt.heap.size 35 2 (.slice A2 k c2) k (((dblL L).take k).flatMap T2.v) ∧ (∀ j, (Value.slice A1 m c1).ownBlock = some j → (Value.slice A2 k c2).ownBlock ≠ some j) ∧ (∀ j, j < k → crossP ⟨aa, ab⟩ ⟨ba, bb⟩ (at2 L j) (nxt L j) = false) ∧ Ext wt wr) (fun _ _ kv _ => L.length - (intOf kv).toNat)
  case atStart => exact ⟨0, _, _, _, _, _, by omega, rfl, rfl, rfl, HO1.out, HO2.out, (fun j h1 h2 => by simp [Value.ownBlock] at h1 h2; have := HNE0.out; omega), by omega, by repeat (first | exact Ext.refl _ | refine Ext.alloc ?_ _ | assumption | refine Ext.over ?_ _ | refine Ext.drew ?_ | refine Ext.drewN ?_ _)⟩
  case round =>
    obtain ⟨k, A1, m, c1, A2, c2, hk, rfl, rfl, rfl, ho1, ho2, hne, hcr, he⟩ := hrel
    have hm := own_len2p ho1
    have hcl := cutsL_len L ⟨aa, ab⟩ ⟨ba, bb⟩ k
    have hm12 : m ≤ 12 := by omega
    have HR1 := hid ho1
    have HR2 := hid ho2
    have HNE := hid hne
    have HCR := hid hcr
    have HE := hid he
    have HX := hid (HT.out.trans he)
    have r1 := old_cell he b1
    have r2 := old_cell he b2
    have r3 := old_cell he b3
    have r4 := old_cell he b4
    clear ho1 ho2 hne hcr he HO1 HO2
    by_cases hlt : k < L.length
    · have hnl := nx_lt hlt
      have hmod := nx_mod hlt
      have hz0 : ¬ L = [] := fun e => by rw [e] at hlt; simp at hlt
      have hwr : IntKind.i64.wrap ((k : Int) + 1) = (k : Int) + 1 := IntWalk.i64_in _ (by omega)
      have hkt : (k : Int) < L.length := by omega
      obtain ⟨blk, off, hA, hc⟩ := (HL.out.ext HT.out).t2 hlt
      obtain ⟨p1, p2⟩ := hc k hlt
      obtain ⟨n1, n2⟩ := hc _ hnl
      rw [show at2 L (nx L.length k) = nxt L k from rfl] at n1 n2
      have HYES := hid (fun h => sees_cross (a := ⟨aa, ab⟩) (b := ⟨ba, bb⟩) hlt h)
      have HNO := hid (fun h => lt_succ_all (k := k) HCR.out h)
      have HD := hid (show ((dblL L).take (k + 1)).flatMap T2.v = ((dblL L).take k).flatMap T2.v ++ [.int .i64 (dbl (at2 L k)).a, .int .i64 (dbl (at2 L k)).b] by rw [dblL_take hlt, List.flatMap_append]; rfl)
      have HC1 := hid (fun h => cutsL_no (L := L) (a := ⟨aa, ab⟩) (b := ⟨ba, bb⟩) (k := k) h)
      have HC2 := hid (fun h => cutsL_yes (L := L) (a := ⟨aa, ab⟩) (b := ⟨ba, bb⟩) (k := k) h)
      have HCF := hid (show cutF L ⟨aa, ab⟩ ⟨ba, bb⟩ k = ((!eqP (at2 L k) ⟨aa, ab⟩ && !eqP (at2 L k) ⟨ba, bb⟩) && onP (at2 L k) ⟨aa, ab⟩ ⟨ba, bb⟩) from rfl)
      subst hA
      generalize nx L.length k = mm at hnl hmod n1 n2
      generalize nxt L k = s at n1 n2 HYES HNO
      generalize at2 L k = q at p1 p2 HYES HNO HD HC2 HCF
      have hmt : (mm : Int) < L.length := by omega
      have s1 := old_cell HE.out p1
      have s2 := old_cell HE.out p2
      have s3 := old_cell HE.out n1
      have s4 := old_cell HE.out n2
      clear hc hm hcl
      cases hx : crossP ⟨aa, ab⟩ ⟨ba, bb⟩ q s
      rotate_left
      · have HV := hid (HYES.out hx)
        go_wp2_with fail
        (refine wp_region_calm (by kernel_rfl) (by kernel_rfl) ?_; (repeat (go_big_quiet_step ((go_at_call 58; exact (gives_b hx (s3Cross_any ⟨aa, ab⟩ ⟨ba, bb⟩ q s _)).calm)))); refine wpQuiet_nil ?_; rintro w1 ⟨x1, rfl⟩)
        go_wp2_with fail
        go_ret
        exact ⟨by rw [HV.out]; rfl, HX.out.trans (by repeat (first | exact Ext.refl _ | refine Ext.alloc ?_ _ | assumption | refine Ext.over ?_ _ | refine Ext.drew ?_ | refine Ext.drewN ?_ _))⟩
      have HN := hid (HNO.out hx)
      go_wp2_with fail
      (refine wp_region_calm (by kernel_rfl) (by kernel_rfl) ?_; (repeat (go_big_quiet_step ((go_at_call 58; exact (gives_b hx (s3Cross_any ⟨aa, ab⟩ ⟨ba, bb⟩ q s _)).calm)))); refine wpQuiet_nil ?_; rintro w1 ⟨x1, rfl⟩)
      go_wp2_with fail
      obtain ⟨wq, hwq⟩ : ∃ wq, wq = ovr wr x1 := ⟨_, rfl⟩
      have eq0 : Ext wr wq := by rw [hwq]; repeat (first | exact Ext.refl _ | refine Ext.alloc ?_ _ | assumption | refine Ext.over ?_ _ | refine Ext.drew ?_ | refine Ext.drewN ?_ _)
      have HEQ := hid (HE.out.trans eq0)
      have HR1 := hid (own_ext HR1.out eq0)
      have HR2 := hid (own_ext HR2.out eq0)
      rw [← hwq]
      clear hwq eq0 r1 r2 r3 r4 s1 s2 s3 s4 n1 n2
      have r1 := old_cell HEQ.out b1
      have r2 := old_cell HEQ.out b2
      have r3 := old_cell HEQ.out b3
      have r4 := old_cell HEQ.out b4
      have s1 := old_cell HEQ.out p1
      have s2 := old_cell HEQ.out p2
      obtain ⟨qa, qb⟩ := q
      have hown := HR1.out
      generalize hcs : (cutsL L ⟨aa, ab⟩ ⟨ba, bb⟩ k).flatMap T2.v = cs at hown
      have HO3 := hid hown
      have hown2 := HR2.out
      generalize hds : ((dblL L).take k).flatMap T2.v = ds at hown2 HD
      have HO4 := hid hown2
      have HKEEP := hid (show cutF L ⟨aa, ab⟩ ⟨ba, bb⟩ k = false → ∀ (wX : World) A5 c5, wX.ownsRow wt.heap.size 35 2 (.slice A5 m c5) m cs → wX.ownsRow wt.heap.size 35 2 (.slice A5 m c5) m ((cutsL L ⟨aa, ab⟩ ⟨ba, bb⟩ (k + 1)).flatMap T2.v) from fun h wX A5 c5 ho => by rw [HC1.out h, hcs]; exact ho)
      have HPUSH := hid (show cutF L ⟨aa, ab⟩ ⟨ba, bb⟩ k = true → ∀ (wX : World) A5 c5, wX.ownsRow wt.heap.size 35 2 (.slice A5 (m + 1) c5) (m + 1) (cs ++ [.int .i64 qa, .int .i64 qb]) → wX.ownsRow wt.heap.size 35 2 (.slice A5 (m + 1) c5) (m + 1) ((cutsL L ⟨aa, ab⟩ ⟨ba, bb⟩ (k + 1)).flatMap T2.v) from fun h wX A5 c5 ho => by rw [HC2.out h, List.flatMap_append, hcs]; exact ho)
      have HBIG := hid (show ∀ (wX : World) A5 c5, wX.ownsRow wt.heap.size 35 2 (.slice A5 (k + 1) c5) (k + 1) (ds ++ [.int .i64 (dbl ⟨qa, qb⟩).a, .int .i64 (dbl ⟨qa, qb⟩).b]) → wX.ownsRow wt.heap.size 35 2 (.slice A5 (k + 1) c5) (k + 1) (((dblL L).take (k + 1)).flatMap T2.v) from fun wX A5 c5 ho => by rw [HD.out]; exact ho)
      have HCFV := hid (show cutF L ⟨aa, ab⟩ ⟨ba, bb⟩ k = ((!((qa == aa) && (qb == ab)) && !((qa == ba) && (qb == bb))) && onP ⟨qa, qb⟩ ⟨aa, ab⟩ ⟨ba, bb⟩) from HCF.out)
      clear hown hown2 HR1 HR2 hcs hds HC1 HC2 HCF HD HYES HNO HCR hx
      generalize cutF L ⟨aa, ab⟩ ⟨ba, bb⟩ k = cf at HKEEP HPUSH HCFV
      have hcase : (qa = aa ∧ qb = ab) ∨ ((¬ qa = aa ∨ (qa = aa ∧ ¬ qb = ab)) ∧ ((qa = ba ∧ qb = bb) ∨ ((¬ qa = ba ∨ (qa = ba ∧ ¬ qb = bb)) ∧ (onP ⟨qa, qb⟩ ⟨aa, ab⟩ ⟨ba, bb⟩ = true ∨ onP ⟨qa, qb⟩ ⟨aa, ab⟩ ⟨ba, bb⟩ = false)))) := by
        have e0 : onP ⟨qa, qb⟩ ⟨aa, ab⟩ ⟨ba, bb⟩ = true ∨ onP ⟨qa, qb⟩ ⟨aa, ab⟩ ⟨ba, bb⟩ = false := by cases onP ⟨qa, qb⟩ ⟨aa, ab⟩ ⟨ba, bb⟩ <;> simp
        by_cases h1 : qa = aa <;> by_cases h2 : qb = ab <;> by_cases h3 : qa = ba <;> by_cases h4 : qb = bb <;> simp only [h1, h2, h3, h4, true_and, and_true, not_true, not_false_iff, or_true, false_or, false_and, or_false] <;> first | exact e0 | (rw [h1, h2, h3] at e0; exact e0) | simp_all
      rcases hcase with ⟨h1, h2⟩ | ⟨h1 | ⟨h1, h2⟩, ⟨h3, h4⟩ | ⟨h3 | ⟨h3, h4⟩, ho | ho⟩⟩
      all_goals try subst h1
      all_goals try subst h2
      all_goals try subst h3
      all_goals try subst h4
      all_goals
        (refine wp_region_calm (by kernel_rfl) (by kernel_rfl) ?_; (repeat (go_big_quiet_step ((go_at_call 59; exact (sOn_any ⟨_, _⟩ ⟨_, _⟩ ⟨_, _⟩ _).calm)))); refine wpQuiet_nil ?_; rintro w1 ⟨x1, rfl⟩)
        go_wp2_with (first | (go_at_call 60; refine (show Gives Try.prog _ _ _ (.agg #[.int .i64 (dbl ⟨_, _⟩).a, .int .i64 (dbl ⟨_, _⟩).b]) from doubled_any ⟨_, _⟩ _).over.mono ?_; rintro e w' ⟨rfl, xw, rfl⟩) | (at_builtin; refine wpList_pushN rfl (.tmp 64) (.tmp 69) 31 rfl 35 Try.underlying31 info_Point rfl (by decide) wt.heap.size A1 m c1 cs rfl wq HO3.out (by repeat (first | exact Ext.refl _ | refine Ext.alloc ?_ _ | assumption | refine Ext.over ?_ _ | refine Ext.drew ?_ | refine Ext.drewN ?_ _)) HEQ.out.size _ 1 1 [.int .i64 _, .int .i64 _] rfl rfl (lit_cells _ _ (by first | (simp; done) | simp [ovr_size]) [.int .i64 _, .int .i64 _] _) (by intro u hu; simp at hu; rcases hu with rfl | rfl <;> rfl) (by decide) (by omega) (by decide) ?_) | (at_builtin; refine wpList_pushN rfl (.tmp 71) (.tmp 77) 31 rfl 35 Try.underlying31 info_Point rfl (by decide) wt.heap.size A2 k c2 ds rfl wq HO4.out (by repeat (first | exact Ext.refl _ | refine Ext.alloc ?_ _ | assumption | refine Ext.over ?_ _ | refine Ext.drew ?_ | refine Ext.drewN ?_ _)) HEQ.out.size _ 1 1 [.int .i64 _, .int .i64 _] rfl rfl (lit_cells _ _ (by first | (simp; done) | simp [ovr_size]) [.int .i64 _, .int .i64 _] _) (by intro u hu; simp at hu; rcases hu with rfl | rfl <;> rfl) (by decide) (by omega) (by decide) ?_))
        intro A5 c5 w5 hown5 hg5 hb5
        first
        | (have HO5 := hid (HPUSH.out (by rw [HCFV.out]; simp [*]) _ _ _ hown5)
           have HE5 := hid (grown_ext HEQ.out HO3.out (Nat.le_refl _) hg5)
           have HO4' := hid (HO4.out.kept hg5 (by
             cases e : (Value.slice A2 k c2).ownBlock with
             | none => exact .inl rfl
             | some j => exact .inr fun e' => HNE.out j e'.symm e))
           have HNE5 := hid (show ∀ j, (Value.slice A5 (m + 1) c5).ownBlock = some j → (Value.slice A2 k c2).ownBlock ≠ some j from fun j e1 e2 => by
             rcases hb5 j e1 with h5 | h5
             · exact HNE.out j h5 e2
             · have := (HO4.out.lt j e2).2; omega)
           clear hown5 hg5 hb5 r1 r2 r3 r4 s1 s2 HO4 HO3
           have s1 := old_cell HE5.out p1
           have s2 := old_cell HE5.out p2
           go_wp2_with (first | (go_at_call 60; refine (show Gives Try.prog _ _ _ (.agg #[.int .i64 (dbl ⟨_, _⟩).a, .int .i64 (dbl ⟨_, _⟩).b]) from doubled_any ⟨_, _⟩ _).over.mono ?_; rintro e w' ⟨rfl, xw, rfl⟩) | (at_builtin; refine wpList_pushN rfl (.tmp 71) (.tmp 77) 31 rfl 35 Try.underlying31 info_Point rfl (by decide) wt.heap.size A2 k c2 ds rfl w5 HO4'.out (by repeat (first | exact Ext.refl _ | refine Ext.alloc ?_ _ | assumption | refine Ext.over ?_ _ | refine Ext.drew ?_ | refine Ext.drewN ?_ _)) HE5.out.size _ 1 1 [.int .i64 _, .int .i64 _] rfl rfl (lit_cells _ _ (by first | (simp; done) | simp [ovr_size]) [.int .i64 _, .int .i64 _] _) (by intro u hu; simp at hu; rcases hu with rfl | rfl <;> rfl) (by decide) (by omega) (by decide) ?_))
           intro A6 c6 w6 hown6 hg6 hb6
           have HO6 := hid (HBIG.out _ _ _ hown6)
           have HE6 := hid (grown_ext HE5.out HO4'.out (Nat.le_refl _) hg6)
           have HO5' := hid (HO5.out.kept hg6 (by
             cases e : (Value.slice A5 (m + 1) c5).ownBlock with
             | none => exact .inl rfl
             | some j => exact .inr fun e' => HNE5.out j e e'.symm))
           have HNE6 := hid (show ∀ j, (Value.slice A5 (m + 1) c5).ownBlock = some j → (Value.slice A6 (k + 1) c6).ownBlock ≠ some j from fun j e1 e2 => by
             rcases hb6 j e2 with h5 | h5
             · exact HNE5.out j e1 h5
             · have := (HO5.out.lt j e1).2; omega)
           clear hown6 hg6 hb6 s1 s2 HO4' HO5 HNE5
           go_wp2_with fail
           go_roundw
           case rel => exact ⟨k + 1, A5, m + 1, c5, A6, c6, by omega, by go_num, rfl, rfl, own_ext HO5'.out (by repeat (first | exact Ext.refl _ | refine Ext.alloc ?_ _ | assumption | refine Ext.over ?_ _ | refine Ext.drew ?_ | refine Ext.drewN ?_ _)), own_ext HO6.out (by repeat (first | exact Ext.refl _ | refine Ext.alloc ?_ _ | assumption | refine Ext.over ?_ _ | refine Ext.drew ?_ | refine Ext.drewN ?_ _)), HNE6.out, HN.out, HE6.out.trans (by repeat (first | exact Ext.refl _ | refine Ext.alloc ?_ _ | assumption | refine Ext.over ?_ _ | refine Ext.drew ?_ | refine Ext.drewN ?_ _))⟩
           case measure => simp [intOf]; omega)
        | (have HO5 := hid (HBIG.out _ _ _ hown5)
           have HE5 := hid (grown_ext HEQ.out HO4.out (Nat.le_refl _) hg5)
           have HO3' := hid (HKEEP.out (by rw [HCFV.out]; simp [*]) _ _ _ (HO3.out.kept hg5 (by
             cases e : (Value.slice A1 m c1).ownBlock with
             | none => exact .inl rfl
             | some j => exact .inr fun e' => HNE.out j e e'.symm)))
           have HNE5 := hid (show ∀ j, (Value.slice A1 m c1).ownBlock = some j → (Value.slice A5 (k + 1) c5).ownBlock ≠ some j from fun j e1 e2 => by
             rcases hb5 j e2 with h5 | h5
             · exact HNE.out j e1 h5
             · have := (HO3.out.lt j e1).2; omega)
           clear hown5 hg5 hb5 r1 r2 r3 r4 s1 s2
           go_wp2_with fail
           go_roundw
           case rel => exact ⟨k + 1, A1, m, c1, A5, c5, by omega, by go_num, rfl, rfl, own_ext HO3'.out (by repeat (first | exact Ext.refl _ | refine Ext.alloc ?_ _ | assumption | refine Ext.over ?_ _ | refine Ext.drew ?_ | refine Ext.drewN ?_ _)), own_ext HO5.out (by repeat (first | exact Ext.refl _ | refine Ext.alloc ?_ _ | assumption | refine Ext.over ?_ _ | refine Ext.drew ?_ | refine Ext.drewN ?_ _)), HNE5.out, HN.out, HE5.out.trans (by repeat (first | exact Ext.refl _ | refine Ext.alloc ?_ _ | assumption | refine Ext.over ?_ _ | refine Ext.drew ?_ | refine Ext.drewN ?_ _))⟩
           case measure => simp [intOf]; omega)
    · obtain rfl : k = L.length := by omega
      clear hcl
      obtain ⟨CS, hCS⟩ : ∃ CS, CS = cutsL L ⟨aa, ab⟩ ⟨ba, bb⟩ L.length := ⟨_, rfl⟩
      rw [← hCS] at hm HR1
      have HV := hid (show seesS L ⟨aa, ab⟩ ⟨ba, bb⟩ = pairsC L CS by unfold seesS noCross; rw [allN_true (fun j hj => by rw [HCR.out j hj]; rfl), hCS]; rfl)
      have HC := hid (Row.of_own HR1.out)
      have HBG := hid (show Row wr A2 ((dblL L).flatMap T2.v) by have := Row.of_own HR2.out; rwa [List.take_of_length_le (by simp [dblL])] at this)
      clear hCS HR1 HR2 HNE HCR b1 b2 b3 b4 r1 r2 r3 r4
      subst hm
      rename World => w2
      have hcs12 : CS.length ≤ 12 := hm12
      have HX2 := hid (HT.out.trans HE.out)
      have HLD := hid (show (dblL L).length = L.length by simp [dblL])
      go_wp2_with fail
      go_loopw [11] (fun iv wr => ∃ (i : Nat), i ≤ CS.length ∧ iv = .int .i64 ↑i ∧ (∀ p, p < i → allN p (fun q => pairC L CS p q) = true) ∧ Ext w2 wr) (fun iv _ => CS.length - (intOf iv).toNat)
      case atStart => exact ⟨0, by omega, rfl, by omega, Ext.refl _⟩
      case round =>
        obtain ⟨i, hi, rfl, hall, he⟩ := hrel
        have HA := hid hall
        have HE3 := hid he
        clear hall he
        by_cases hit : i < CS.length
        · rename World => w3
          go_wp2_with fail
          go_loopw [12] (fun kv wr => ∃ (k : Nat), k ≤ i ∧ kv = .int .i64 ↑k ∧ (∀ q, q < k → pairC L CS i q = true) ∧ Ext w2 wr) (fun kv _ => i - (intOf kv).toNat)
          case atStart => exact ⟨0, by omega, rfl, by omega, HE3.out⟩
          case round =>
            obtain ⟨k, hk, rfl, hpr, he⟩ := hrel
            have HPR := hid hpr
            have HE4 := hid he
            clear hpr he
            by_cases hkt : k < i
            · rename World => w4
              have hpc : pairC L CS i k = !(freeJ CS i k CS.length && decide (holdsS (dblL L) (midP (at2 CS i) (at2 CS k)) < 0)) := rfl
              have HPC := hid hpc
              clear hpc
              go_wp2_with fail
              go_loopw [13, 14] (fun fv jv wr => ∃ (j : Nat) (z : Bool), j ≤ CS.length ∧ jv = .int .i64 ↑j ∧ fv = .bool z ∧ freeJ CS i k j = z ∧ Ext w2 wr) (fun _ jv _ => CS.length - (intOf jv).toNat)
              case atStart => exact ⟨0, true, by omega, rfl, rfl, rfl, HE4.out⟩
              case round =>
                obtain ⟨j, z, hj, rfl, rfl, hz, he⟩ := hrel
                have HZ := hid hz
                have HE5 := hid he
                clear hz he
                obtain ⟨blk, off, hA1, hc⟩ := (HC.out.ext HE5.out).t2 hit
                obtain ⟨x1, x2⟩ := hc i hit
                obtain ⟨y1, y2⟩ := hc k (by omega)
                have hit' : (i : Int) < CS.length := by omega
                have hkt' : (k : Int) < CS.length := by omega
                subst hA1
                by_cases hjt : j < CS.length
                · obtain ⟨z1, z2⟩ := hc j hjt
                  have hjt' : (j : Int) < CS.length := by omega
                  have HS := hid (show freeJ CS i k (j + 1) = (z && ((j == i) || (j == k) || !onP (at2 CS j) (at2 CS i) (at2 CS k))) by rw [← HZ.out]; exact allN_succ _ _)
                  clear hc
                  generalize at2 CS i = pi at x1 x2 HS HPC
                  generalize at2 CS k = pk at y1 y2 HS HPC
                  generalize at2 CS j = pj at z1 z2 HS
                  cases z
                  · have HN := hid (HS.out.trans (Bool.false_and _))
                    go_wp2_with fail
                    (refine wp_region_calm (by kernel_rfl) (by kernel_rfl) ?_; (repeat (go_big_quiet_step (fail))); refine wpQuiet_nil ?_; rintro w1 ⟨x1, rfl⟩)
                    go_wp2_with fail
                    go_roundw
                    case rel => exact ⟨j + 1, false, by omega, by go_num, rfl, HN.out, HE5.out.trans (by repeat (first | exact Ext.refl _ | refine Ext.alloc ?_ _ | assumption | refine Ext.over ?_ _ | refine Ext.drew ?_ | refine Ext.drewN ?_ _))⟩
                    case measure => simp [intOf]; omega
                  · by_cases e1 : j = i
                    · have e1' : ((j : Int) == (i : Int)) = true := by rw [beq_iff_eq]; omega
                      have HN := hid (HS.out.trans (show _ = true by rw [beq_iff_eq.2 e1]; rfl))
                      have he1 := hid e1
                      clear e1
                      go_wp2_with fail
                      (refine wp_region_calm (by kernel_rfl) (by kernel_rfl) ?_; (repeat (go_big_quiet_step (fail))); refine wpQuiet_nil ?_; rintro w1 ⟨x1, rfl⟩)
                      go_wp2_with fail
                      go_roundw
                      case rel => exact ⟨j + 1, true, by omega, by go_num, rfl, HN.out, HE5.out.trans (by repeat (first | exact Ext.refl _ | refine Ext.alloc ?_ _ | assumption | refine Ext.over ?_ _ | refine Ext.drew ?_ | refine Ext.drewN ?_ _))⟩
                      case measure => simp [intOf]; omega
                    have e1' : ((j : Int) == (i : Int)) = false := by rw [beq_eq_false_iff_ne]; omega
                    by_cases e2 : j = k
                    · have e2' : ((j : Int) == (k : Int)) = true := by rw [beq_iff_eq]; omega
                      have HN := hid (HS.out.trans (show _ = true by rw [beq_iff_eq.2 e2]; simp))
                      have he2 := hid e2
                      clear e2 e1
                      go_wp2_with fail
                      (refine wp_region_calm (by kernel_rfl) (by kernel_rfl) ?_; (repeat (go_big_quiet_step (fail))); refine wpQuiet_nil ?_; rintro w1 ⟨x1, rfl⟩)
                      go_wp2_with fail
                      go_roundw
                      case rel => exact ⟨j + 1, true, by omega, by go_num, rfl, HN.out, HE5.out.trans (by repeat (first | exact Ext.refl _ | refine Ext.alloc ?_ _ | assumption | refine Ext.over ?_ _ | refine Ext.drew ?_ | refine Ext.drewN ?_ _))⟩
                      case measure => simp [intOf]; omega
                    have e2' : ((j : Int) == (k : Int)) = false := by rw [beq_eq_false_iff_ne]; omega
                    have HSO := hid (HS.out.trans (show _ = !onP pj pi pk by rw [beq_eq_false_iff_ne.2 e1, beq_eq_false_iff_ne.2 e2]; rfl))
                    clear e1 e2
                    cases ho : onP pj pi pk
                    all_goals
                      have HN := hid HSO.out
                      rw [ho] at HN
                      go_wp2_with fail
                      (refine wp_region_calm (by kernel_rfl) (by kernel_rfl) ?_; (repeat (go_big_quiet_step ((go_at_call 59; exact (gives_b ho (sOn_any pj pi pk _)).calm)))); refine wpQuiet_nil ?_; rintro w1 ⟨x1, rfl⟩)
                      go_wp2_with fail
                      go_roundw
                      case rel => exact ⟨j + 1, _, by omega, by go_num, rfl, HN.out, HE5.out.trans (by repeat (first | exact Ext.refl _ | refine Ext.alloc ?_ _ | assumption | refine Ext.over ?_ _ | refine Ext.drew ?_ | refine Ext.drewN ?_ _))⟩
                      case measure => simp [intOf]; omega
                · obtain rfl : j = CS.length := by omega
                  obtain ⟨v, hv⟩ : ∃ v, holdsS (dblL L) (midP (at2 CS i) (at2 CS k)) = v := ⟨_, rfl⟩
                  have HPV := hid (show pairC L CS i k = !(z && decide (v < 0)) by rw [HPC.out, HZ.out, hv])
                  have HBW := hid (HBG.out.ext HE5.out)
                  clear hc
                  generalize at2 CS i = pi at x1 x2 hv HPC
                  generalize at2 CS k = pk at y1 y2 hv HPC
                  have HV1 := hid (show holdsS (dblL L) ⟨wrap64 (pi.a + pk.a), wrap64 (pi.b + pk.b)⟩ = v from hv)
                  clear hv HPC
                  go_wp2_with fail
                  refine wp_region_x [.q 0, .q 1, .q 2, .q 3, .q 4, .q 5, .q 6, .q 7, .q 8, .q 9, .q 10, .q 11, .q 12, .q 13, .q 14, .q 15, .q 16, .q 17, .q 18, .q 19, .q 20, .q 21, .q 22, .u 23, .u 24] (by kernel_rfl) (by kernel_rfl) (fun w6 e6 => ?_)
                  have E6 := hid (Ext.trans (show Ext wr _ by repeat (first | exact Ext.refl _ | refine Ext.alloc ?_ _ | assumption | refine Ext.over ?_ _ | refine Ext.drew ?_ | refine Ext.drewN ?_ _)) e6)
                  have x1 := old_cell E6.out x1
                  have x2 := old_cell E6.out x2
                  have y1 := old_cell E6.out y1
                  have y2 := old_cell E6.out y2
                  have HBW6 := hid (HBW.out.ext E6.out)
                  clear e6
                  simp only [pick, List.getElem?_cons_succ, List.getElem?_cons_zero]
                  repeat (refine wpZ_q (fun K hK => ?_); go_simp; refine hK _ ?_; clear hK K)
                  refine wpZ_u ?_
                  refine stepH_of (fun K hK => ?_)
                  go_simp
                  refine hK _ _ (Below.alloc (Below.refl _ _) (Nat.le_refl _) _) ?_; clear hK K
                  refine wpZ_u ?_
                  refine stepH_of (fun K hK => ?_)
                  go_simp
                  refine hK _ _ (below_again (Nat.le_refl _) _ _) ?_; clear hK K
                  refine wpZ_nil ?_
                  clear x1 x2 y1 y2
                  cases z
                  · have HN := hid (lt_succ_all HPR.out (HPV.out.trans rfl))
                    go_wp2_with fail
                    go_roundw
                    case rel => exact ⟨k + 1, by omega, by go_num, HN.out, HE5.out.trans (E6.out.trans (by repeat (first | exact Ext.refl _ | refine Ext.alloc ?_ _ | assumption | refine Ext.over ?_ _ | refine Ext.drew ?_ | refine Ext.drewN ?_ _)))⟩
                    case measure => simp [intOf]; omega
                  · cases hd : decide (v < 0)
                    · have HN := hid (lt_succ_all HPR.out (HPV.out.trans (by rw [hd]; rfl)))
                      go_wp2_with (go_at_call 46; refine (gives_v HV1.out (holds_any A2 L.length c2 (dblL L) ⟨_, _⟩ _ (HBW6.out.ext (by repeat (first | exact Ext.refl _ | refine Ext.alloc ?_ _ | assumption | refine Ext.over ?_ _ | refine Ext.drew ?_ | refine Ext.drewN ?_ _))) HLD.out (by omega))).over.mono ?_; rintro e w' ⟨rfl, xw, rfl⟩)
                      go_roundw
                      case rel => exact ⟨k + 1, by omega, by go_num, HN.out, HE5.out.trans (E6.out.trans (by repeat (first | exact Ext.refl _ | refine Ext.alloc ?_ _ | assumption | refine Ext.over ?_ _ | refine Ext.drew ?_ | refine Ext.drewN ?_ _)))⟩
                      case measure => simp [intOf]; omega
                    · have HVV := hid (HV.out.trans (show pairsC L CS = false from allN_false hit (allN_false hkt (HPV.out.trans (by rw [hd]; rfl)))))
                      go_wp2_with (go_at_call 46; refine (gives_v HV1.out (holds_any A2 L.length c2 (dblL L) ⟨_, _⟩ _ (HBW6.out.ext (by repeat (first | exact Ext.refl _ | refine Ext.alloc ?_ _ | assumption | refine Ext.over ?_ _ | refine Ext.drew ?_ | refine Ext.drewN ?_ _))) HLD.out (by omega))).over.mono ?_; rintro e w' ⟨rfl, xw, rfl⟩)
                      go_ret
                      exact ⟨by rw [HVV.out]; rfl, HX2.out.trans (HE5.out.trans (E6.out.trans (by repeat (first | exact Ext.refl _ | refine Ext.alloc ?_ _ | assumption | refine Ext.over ?_ _ | refine Ext.drew ?_ | refine Ext.drewN ?_ _))))⟩
            · obtain rfl : k = i := by omega
              have HN := hid (lt_succ_all HA.out (show allN k (fun q => pairC L CS k q) = true from allN_true HPR.out))
              go_wp2_with fail
              go_roundw
              case rel => exact ⟨k + 1, by omega, by go_num, HN.out, HE4.out⟩
              case measure => simp [intOf]; omega
        · obtain rfl : i = CS.length := by omega
          have HVV := hid (HV.out.trans (show pairsC L CS = true from allN_true HA.out))
          go_wp2_with fail
          go_ret
          exact ⟨by rw [HVV.out]; rfl, HX2.out.trans HE3.out⟩
end Go.Proofs.Ytkifapcegiajiaa
