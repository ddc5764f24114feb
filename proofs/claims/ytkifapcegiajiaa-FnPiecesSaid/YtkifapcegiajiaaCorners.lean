/- Walks: the corners between two points, sight in a valid room. Conditions: a valid room, valid points. -/
import Derived.Test.YtkifapcegiajiaaBetween
import Derived.Test.YtkifapcegiajiaaSeesP
namespace Go.Proofs.Ytkifapcegiajiaa
open Go.RowKit
set_option linter.unusedVariables false

theorem own_two (w : World) (g B : Nat) (hg : g = w.heap.size) (hB : B ≤ w.heap.size) (e : TypeId) (p q : T2) : (w.alloc (.cells #[.int .i64 p.a, .int .i64 p.b, .int .i64 q.a, .int .i64 q.b] e)).ownsRow B e 2 (.slice (some ⟨g, 0, none⟩) 2 2) 2 (([p, q] : List T2).flatMap T2.v) := by
  subst hg
  exact ⟨rfl, .inr ⟨w.heap.size, 2, #[.int .i64 p.a, .int .i64 p.b, .int .i64 q.a, .int .i64 q.b], rfl, hB, heap_alloc_new w _, Nat.le_refl _, by decide, rfl, rfl⟩⟩
set_option maxHeartbeats 3200000 in
set_option maxRecDepth 100000 in
theorem cornersBetween_any (A : Option Addr) (n c : Nat) (L : List T2) (a b : T2) (w : World) (hl : Row w A (L.flatMap T2.v)) (hn : L.length = n) (hr : roomS L = true) (ha : pokT a = true) (hb : pokT b = true) :
    Calls Try.prog 67 #[.agg #[.slice A n c], ptV a, ptV b] w fun en w' => ∃ B m c' l', en = .returned (.slice B m c') ∧ l'.Perm (cutsL L a b n) ∧ SortK (squareZ a) l' m ∧ w'.ownsRow w.heap.size 35 2 (.slice B m c') m (l'.flatMap T2.v) ∧ Ext w w' := by
  subst hn
  have hp := roomP_of hr
  have h10 := hp.hi
  have HP := hid hp
  have HL := hid hl
  have HKY := hid (fun p hp' q hq' => key_dW (small_pok ha) (cuts_spec hp (small_pok ha) (small_pok hb) (c := p) hp').1 (cuts_spec hp (small_pok ha) (small_pok hb) (c := q) hq').1)
  clear hl hr ha hb hp
  obtain ⟨aa, ab⟩ := a
  obtain ⟨ba, bb⟩ := b
  unfold ptV
  go_enter Try.func67, Try.ntmps67
  go_wp2_with fail
  obtain ⟨wt, hwt⟩ : ∃ wt, wt = ((w.alloc (.cells #[.slice A L.length c] 33)).alloc (.cells #[.int .i64 aa, .int .i64 ab] 35)).alloc (.cells #[.int .i64 ba, .int .i64 bb] 35) := ⟨_, rfl⟩
  have het : Ext w wt := by rw [hwt]; repeat (first | exact Ext.refl _ | refine Ext.alloc ?_ _ | assumption | refine Ext.over ?_ _ | refine Ext.drew ?_ | refine Ext.drewN ?_ _)
  have b0 : wt.cell? ⟨w.heap.size, 0, none⟩ = some (.slice A L.length c) := by rw [hwt]; go_simp
  have b1 : wt.cell? ⟨w.heap.size + 1, 0, none⟩ = some (.int .i64 aa) := by rw [hwt]; go_simp
  have b2 : wt.cell? ⟨w.heap.size + 1, 1, none⟩ = some (.int .i64 ab) := by rw [hwt]; go_simp
  have b3 : wt.cell? ⟨w.heap.size + 1 + 1, 0, none⟩ = some (.int .i64 ba) := by rw [hwt]; go_simp
  have b4 : wt.cell? ⟨w.heap.size + 1 + 1, 1, none⟩ = some (.int .i64 bb) := by rw [hwt]; go_simp
  have HT := hid het
  have HSZ := hid (show w.heap.size + 1 + 1 + 1 = wt.heap.size by rw [hwt]; simp)
  have hgb : w.heap.size ≤ w.heap.size := Nat.le_refl _
  rw [← hwt]
  obtain ⟨gr, hgr⟩ : ∃ gr, gr = w.heap.size := ⟨_, rfl⟩
  have HGR := hid hgr
  rw [← hgr] at b0 b1 b2 b3 b4 HSZ ⊢
  clear hwt het hgb hgr
  generalize Value.agg #[.int .i64 aa, .int .i64 ab] = va
  generalize Value.agg #[.int .i64 ba, .int .i64 bb] = vb
  go_loopw [7, 16] (fun ov kv wr => ∃ (k : Nat) (A' : Option Addr) (m c' : Nat), k ≤ L.length ∧ kv = .int .i64 ↑k ∧ ov = .slice A' m c' ∧ wr.ownsRow wt.heap.size 35 2 (.slice A' m c') m ((cutsL L ⟨aa, ab⟩ ⟨ba, bb⟩ k).flatMap T2.v) ∧ Ext wt wr) (fun _ kv _ => L.length - (intOf kv).toNat)
  case atStart => exact ⟨0, _, _, _, by omega, rfl, rfl, own_two wt _ _ HSZ.out (Nat.le_refl _) _ ⟨aa, ab⟩ ⟨ba, bb⟩, by repeat (first | exact Ext.refl _ | refine Ext.alloc ?_ _ | assumption | refine Ext.over ?_ _ | refine Ext.drew ?_ | refine Ext.drewN ?_ _)⟩
  case round =>
    obtain ⟨k, A', m, c', hk, rfl, rfl, hown, he⟩ := hrel
    have HO := hid hown
    have hm := own_len2p hown
    have hcl := cutsL_len L ⟨aa, ab⟩ ⟨ba, bb⟩ k
    have HE := hid he
    have HX := hid (HT.out.trans he)
    have r0 := old_cell he b0
    have r1 := old_cell he b1
    have r2 := old_cell he b2
    have r3 := old_cell he b3
    have r4 := old_cell he b4
    have hm12 : m ≤ 12 := by omega
    clear hown he
    by_cases hlt : k < L.length
    · obtain ⟨blk, off, hA, hc⟩ := (HL.out.ext HX.out).t2 hlt
      obtain ⟨c1, c2⟩ := hc k hlt
      have HCF := hid (show cutF L ⟨aa, ab⟩ ⟨ba, bb⟩ k = ((!eqP (at2 L k) ⟨aa, ab⟩ && !eqP (at2 L k) ⟨ba, bb⟩) && onP (at2 L k) ⟨aa, ab⟩ ⟨ba, bb⟩) from rfl)
      have HYES := hid (fun h => cutsL_yes (L := L) (a := ⟨aa, ab⟩) (b := ⟨ba, bb⟩) (k := k) h)
      have HNO := hid (fun h => cutsL_no (L := L) (a := ⟨aa, ab⟩) (b := ⟨ba, bb⟩) (k := k) h)
      subst hA
      generalize at2 L k = q at c1 c2 HCF HYES
      obtain ⟨qa, qb⟩ := q
      clear hc hm hcl
      have HS := hid (show cutF L ⟨aa, ab⟩ ⟨ba, bb⟩ k = true → (cutsL L ⟨aa, ab⟩ ⟨ba, bb⟩ (k + 1)).flatMap T2.v = (cutsL L ⟨aa, ab⟩ ⟨ba, bb⟩ k).flatMap T2.v ++ [.int .i64 qa, .int .i64 qb] from fun h => by rw [HYES.out h, List.flatMap_append]; rfl)
      have hown := HO.out
      generalize hcs : (cutsL L ⟨aa, ab⟩ ⟨ba, bb⟩ k).flatMap T2.v = cs at hown HS
      have HO3 := hid hown
      have HKEEP := hid (show cutF L ⟨aa, ab⟩ ⟨ba, bb⟩ k = false → ∀ wX : World, wX.ownsRow wt.heap.size 35 2 (.slice A' m c') m cs → wX.ownsRow wt.heap.size 35 2 (.slice A' m c') m ((cutsL L ⟨aa, ab⟩ ⟨ba, bb⟩ (k + 1)).flatMap T2.v) from fun h wX ho => by rw [HNO.out h, hcs]; exact ho)
      have HPUSH := hid (show cutF L ⟨aa, ab⟩ ⟨ba, bb⟩ k = true → ∀ (wX : World) A5 c5, wX.ownsRow wt.heap.size 35 2 (.slice A5 (m + 1) c5) (m + 1) (cs ++ [.int .i64 qa, .int .i64 qb]) → wX.ownsRow wt.heap.size 35 2 (.slice A5 (m + 1) c5) (m + 1) ((cutsL L ⟨aa, ab⟩ ⟨ba, bb⟩ (k + 1)).flatMap T2.v) from fun h wX A5 c5 ho => by rw [HS.out h]; exact ho)
      have HCFV := hid (show cutF L ⟨aa, ab⟩ ⟨ba, bb⟩ k = ((!((qa == aa) && (qb == ab)) && !((qa == ba) && (qb == bb))) && onP ⟨qa, qb⟩ ⟨aa, ab⟩ ⟨ba, bb⟩) from HCF.out)
      clear hown HO hcs HYES HS HNO HCF
      generalize cutF L ⟨aa, ab⟩ ⟨ba, bb⟩ k = cf at HKEEP HPUSH HCFV
      clear HKY
      by_cases h1 : qa = aa
      all_goals by_cases h2 : qb = ab
      all_goals by_cases h3 : qa = ba
      all_goals by_cases h4 : qb = bb
      all_goals try subst h1
      all_goals try subst h2
      all_goals try subst h3
      all_goals try subst h4
      all_goals
        go_wp2_with (first | (go_at_call 86; refine (on_any ⟨_, _⟩ ⟨_, _⟩ ⟨_, _⟩ _).over.mono ?_; rintro e w' ⟨rfl, xw, rfl⟩) | (at_builtin; refine wpList_push wt rfl (.tmp 34) (.tmp 36) 31 rfl 35 Try.underlying31 info_Point rfl (by decide) _ m cs rfl wr HO3.out (by repeat (first | exact Ext.refl _ | refine Ext.alloc ?_ _ | assumption | refine Ext.over ?_ _ | refine Ext.drew ?_ | refine Ext.drewN ?_ _)) (Ext.trans HE.out (by repeat (first | exact Ext.refl _ | refine Ext.alloc ?_ _ | assumption | refine Ext.over ?_ _ | refine Ext.drew ?_ | refine Ext.drewN ?_ _))) _ 1 1 [.int .i64 _, .int .i64 _] rfl rfl (lit_cells _ _ (by first | (simp; done) | simp [ovr_size]) [.int .i64 _, .int .i64 _] _) (by intro u hu; simp at hu; rcases hu with rfl | rfl <;> rfl) (by omega) (by decide) ?_))
        all_goals
          first
          | (intro A5 c5 w5 hown5 he5
             have HO5 := hid (HPUSH.out (by rw [HCFV.out]; simp [*]) _ _ _ hown5)
             have HE5 := hid he5
             clear hown5 he5
             go_wp2_with fail
             go_roundw
             case rel => exact ⟨k + 1, A5, m + 1, c5, by omega, by go_num, rfl, own_ext HO5.out (by repeat (first | exact Ext.refl _ | refine Ext.alloc ?_ _ | assumption | refine Ext.over ?_ _ | refine Ext.drew ?_ | refine Ext.drewN ?_ _)), HE5.out.trans (by repeat (first | exact Ext.refl _ | refine Ext.alloc ?_ _ | assumption | refine Ext.over ?_ _ | refine Ext.drew ?_ | refine Ext.drewN ?_ _))⟩
             case measure => simp [intOf]; omega)
          | (have HN := hid (HKEEP.out (by rw [HCFV.out]; simp [*]))
             go_roundw
             case rel => exact ⟨k + 1, A', m, c', by omega, by go_num, rfl, HN.out _ (own_ext HO3.out (by repeat (first | exact Ext.refl _ | refine Ext.alloc ?_ _ | assumption | refine Ext.over ?_ _ | refine Ext.drew ?_ | refine Ext.drewN ?_ _))), HE.out.trans (by repeat (first | exact Ext.refl _ | refine Ext.alloc ?_ _ | assumption | refine Ext.over ?_ _ | refine Ext.drew ?_ | refine Ext.drewN ?_ _))⟩
             case measure => simp [intOf]; omega)
    · obtain rfl : k = L.length := by omega
      obtain ⟨g, rfl⟩ := own_addr HO.out (by omega)
      have hgo : wt.heap.size ≤ g := (HO.out.lt g rfl).1
      have hgs := HSZ.out
      have hga : ¬ gr + 1 = g := by omega
      clear hm hcl hgs
      go_wp2_with fail
      refine (SortFunc_any g m c' wt.heap.size (gr + 1) ⟨aa, ab⟩ (squareZ ⟨aa, ab⟩) (cutsL L ⟨aa, ab⟩ ⟨ba, bb⟩ L.length) _ (own_ext HO.out (by repeat (first | exact Ext.refl _ | refine Ext.alloc ?_ _ | assumption | refine Ext.over ?_ _ | refine Ext.drew ?_ | refine Ext.drewN ?_ _))) hm12 (by go_simp) (by go_simp) hga HKY.out).mono ?_
      rintro _ w2 ⟨rfl, l', hp, hs, hown, hg⟩
      have HP2 := hid hp
      have HS2 := hid hs
      have HO2 := hid hown
      have HE2 := hid (grown_ext (HE.out.trans (by repeat (first | exact Ext.refl _ | refine Ext.alloc ?_ _ | assumption | refine Ext.over ?_ _ | refine Ext.drew ?_ | refine Ext.drewN ?_ _))) (own_ext HO.out (by repeat (first | exact Ext.refl _ | refine Ext.alloc ?_ _ | assumption | refine Ext.over ?_ _ | refine Ext.drew ?_ | refine Ext.drewN ?_ _))) (Nat.le_refl _) hg)
      clear hp hs hown hg
      go_wp2_with fail
      refine bodyPost_ret (v := .slice (some ⟨g, 0, none⟩) m c') (by first | rfl | (simp [results, Try.results67, go_sem]; done)) rfl ?_
      exact ⟨_, m, c', l', rfl, HP2.out, HS2.out, own_base HO2.out HT.out.size, HT.out.trans HE2.out⟩
end Go.Proofs.Ytkifapcegiajiaa
