/- Walks: a shortest way. Conditions: at most 7 halls. -/
import Derived.Test.YtngniniiohgilaaLinks
import Derived.Test.YtngniniiohgilaaRepeat
import Derived.Test.YtngniniiohgilaaQueue
import Derived.Test.YtngniniiohgilaaParent
import Derived.Test.YtngniniiohgilaaRev
namespace Go.Proofs.Ytngniniiohgilaa
open Go.RowKit
set_option linter.unusedVariables false

theorem wayIn1_any (h : Nat) (A : Option Addr) (n c : Nat) (l : List T2) (x : Int) (gb : Nat) (w : World) (hb0 : w.cell? ⟨gb, 0, none⟩ = some (.int .i64 ↑h)) (hb1 : w.cell? ⟨gb, 1, none⟩ = some (.slice A n c)) (hl : Row w A (l.flatMap T2.v)) (hn : l.length = n) (hx : n ≤ 12) (h7 : h ≤ 7) (hf : doorsOk h l = true) :
    Calls Try.prog 72 #[.int .i64 x, .pointer (some ⟨gb, 0, none⟩)] w fun en w' => ∃ A' m' c', en = .returned (.slice A' m' c') ∧ w'.ownsRow w.heap.size 3 1 (.slice A' m' c') m' ((links l x h).map (Value.int .i64)) ∧ Ext w w' := by
  go_enter Try.func72, Try.ntmps72
  go_wp2_with fail
  refine (linksOf_any h A n c l x _ hl hn hx h7 hf).mono ?_
  rintro _ w1 ⟨A', m', c', rfl, ho, he⟩
  go_wp2_with fail
  go_ret
  exact ⟨_, _, _, rfl, ho, he⟩
theorem info_int1 : (Try.prog.info? 3).map (fun i => (i.zero, i.size, i.bytes)) = some (some (.int .i64 0), 1, 8) := by kernel_rfl
def vs (L : List Nd) : List Value := L.map fun x => .int .i64 x.v
/-- What the rounds of the search keep: k halls have been taken from the queue. -/
def Rnd (n : Nat) (adj : Nat → Nat → Bool) (a : Nat) (w : World) (b0 gF B k : Nat) (q : Value) (wr : World) : Prop :=
  ∃ g o c, k ≤ (bfs n adj a k).length ∧ q = .slice (some ⟨g, o, none⟩) ((bfs n adj a k).length - k) c ∧ QAt B 3 wr (some ⟨g, o, none⟩) ((bfs n adj a k).length - k) c (vs ((bfs n adj a k).drop k)) ∧
    wr.ownsRow b0 3 1 (.slice (some ⟨gF, 0, none⟩) n n) n (fromC n (bfs n adj a k)) ∧ Ext w wr ∧ B ≤ wr.heap.size
set_option maxHeartbeats 3200000 in
set_option maxRecDepth 100000 in
theorem shortest_any (n a b : Nat) (adj : Nat → Nat → Bool) (gb : Nat) (w : World) (ha : a < n) (hb : b < n) (h7 : n ≤ 7)
    (hclo : ∀ q, q < n → ∀ w', Ext w w' → Calls Try.prog 72 #[.int .i64 q, .pointer (some ⟨gb, 0, none⟩)] w' fun en w2 => ∃ A' m' c', en = .returned (.slice A' m' c') ∧ w2.ownsRow w'.heap.size 3 1 (.slice A' m' c') m' ((idxs (fun i => adj i q) n).map (Value.int .i64)) ∧ Ext w' w2) :
    Calls Try.prog 50 #[.int .i64 n, .int .i64 a, .int .i64 b, .func (.func 72) #[] #[.pointer (some ⟨gb, 0, none⟩)]] w fun en w' => Ext w w' ∧
      (dist n adj a b < 0 ∧ en = .returned (.slice none 0 0) ∨ 0 ≤ dist n adj a b ∧ ∃ A c, en = .returned (.slice A ((dist n adj a b).toNat + 1) c) ∧ w'.ownsRow w.heap.size 3 1 (.slice A ((dist n adj a b).toNat + 1) c) ((dist n adj a b).toNat + 1) ((wayB (tree n adj a) b (dist n adj a b).toNat).reverse.map (Value.int .i64))) := by
  have HC := hid hclo
  clear hclo
  go_enter Try.func50, Try.ntmps50
  go_wp2_with fail
  refine (Repeat_any n w.heap.size 1 _ (by omega) h7 (by go_simp)).mono ?_
  rintro _ w1 ⟨gF, rfl, ho, he⟩
  have hgF := ho.lt gF rfl
  have HO := hid (own_base (base' := w.heap.size) ho (by simp))
  have E1 := hid (show Ext w w1 from Ext.trans (by repeat (first | exact Ext.refl _ | refine Ext.alloc ?_ _ | assumption | refine Ext.over ?_ _ | refine Ext.drew ?_ | refine Ext.drewN ?_ _)) he)
  have hc1 : w1.cell? ⟨gF, a, none⟩ = some (.int .i64 (-1)) := by rw [ho.cellAt a (by omega)]; simp [ha]
  have hf1 : w1.frozen? ⟨gF, a, none⟩ = false := ho.frozenAt a
  have hB : gF < w1.heap.size := hgF.2
  have hwF : w.heap.size ≤ gF := by have := hgF.1; simp at this; omega
  clear ho he hgF
  go_wp2_with fail
  go_loopw [10] (fun q wr => ∃ k, Rnd n adj a w w.heap.size gF w1.heap.size k q wr) (fun q wr => least fun m => ∃ k, k ≤ n ∧ Rnd n adj a w w.heap.size gF w1.heap.size k q wr ∧ m = n - k)
  case atStart =>
    refine ⟨0, w1.heap.size, 0, 1, by simp, rfl, ?_, ?_, ?_, by simp⟩
    · have h1 := World.ownsRow_lit (base := w1.heap.size) (e := 3) (size := 1) (w1.setCell ⟨gF, a, none⟩ (.int .i64 a)) #[.int .i64 a] 1 (by simp) (by decide) rfl
      rw [World.size_setCell] at h1
      exact own_whole h1 (by simp)
    · have h1 := ((HO.out.stored a (.int .i64 a)).1).alloc (.cells #[.int .i64 a] 3)
      have h2 := fromC_snoc (L := []) (x := ⟨a, a, 0⟩) ha rfl
      rw [fromC_nil] at h2
      rw [show bfs n adj a 0 = [] ++ [⟨a, a, 0⟩] from rfl, h2]
      exact h1
    · exact Ext.alloc (Below.grown E1.out (HO.out.stored a (.int .i64 a)).2 E1.out.size (fun k hk => by injection hk with hk; omega)) _
  case round =>
    rename World => wo
    have hex : ∃ m, ∃ k, k ≤ n ∧ Rnd n adj a w w.heap.size gF w1.heap.size k u10 wo ∧ m = n - k := by
      obtain ⟨k, hr⟩ := hrel
      have h1 := bfs_len (adj := adj) ha k
      obtain ⟨_, _, _, hk, _⟩ := id hr
      exact ⟨_, k, by omega, hr, rfl⟩
    clear hrel
    obtain ⟨hls, _⟩ := least_spec hex
    obtain ⟨k, hkn, ⟨g, o, c, hk, hq, hQ, hF, hE, hBw⟩, hm⟩ := hls
    subst hq
    clear hex
    have hI := bfs_inv (adj := adj) ha k
    have hst := bfs_pre (n := n) (adj := adj) (a := a) (k := k)
    have hLn := bfs_len (adj := adj) ha k
    have hdl := fun x hx => depth_lt (n := n) (adj := adj) (a := a) (k := k) ha (x := x) hx
    have htr := tree_of (adj := adj) (k := k) ha
    have hwF' := hid hwF
    clear hc1 hf1
    generalize hL : bfs n adj a k = L at hm hk hQ hF hst htr hI hLn hdl ⊢
    obtain ⟨m, hmL⟩ : ∃ m, m = L.length - k := ⟨_, rfl⟩
    rw [← hmL] at hm hQ ⊢
    have HM := hid hm
    clear hm
    by_cases hlt : k < L.length
    · have hpre := hst hlt
      obtain ⟨q, hqL⟩ : ∃ q, q = ndAt L k := ⟨_, rfl⟩
      have hdrop : L.drop k = q :: L.drop (k + 1) := by rw [hqL, ndAt_eq _ _ hlt]; exact List.drop_eq_getElem_cons hlt
      have hqn : q.v < n := hI.lt q (hqL ▸ ndAt_mem hlt)
      rw [← hqL, news_lk] at hpre
      obtain ⟨_, _, hA, hg1, hg2, hcell⟩ := hQ.at_
      injection hA with hA; injection hA with hA1 hA2; subst hA1 hA2
      have c1 : wo.cell? ⟨g, o, none⟩ = some (.int .i64 q.v) := by have := hcell 0 _ (by rw [hdrop]; rfl); simpa using this
      clear hcell hst htr
      have hm0 : 0 < m := by omega
      have HmL := hid hmL
      clear hmL
      have HQ := hid hQ
      have HF := hid hF
      have HI := hid hI
      have HE := hid hE
      have HP := hid hpre
      have HD := hid hdrop
      have HX := hid (And.intro hqL (And.intro hL hg2))
      clear hQ hF hI hE hpre hdrop hqL hL
      go_wp2_with fail
      refine (HC.out q.v hqn wo HE.out).mono ?_
      rintro _ w2 ⟨AN, mN, cN, rfl, hown, he2⟩
      have c1' := old_cell he2 c1
      have HQ2 := hid (HQ.out.ext he2)
      have HF2 := hid (own_ext HF.out he2)
      have HE2 := hid (Ext.trans HE.out he2)
      have HN := hid hown
      have hs2 := hid he2.size
      clear hown he2 HQ HF HE
      go_wp2_with fail
      obtain ⟨ns, hns⟩ : ∃ ns, ns = lk (fun i => adj i q.v) n := ⟨_, rfl⟩
      rw [← hns] at HP
      have hmN : mN = ns.length := by have := own_len1 HN.out; rw [idxs_lk, ← hns] at this; simpa using this.symm
      have HmN := hid hmN
      clear hmN
      have hnsl : ns.length ≤ n := by rw [hns]; exact lk_len _ _
      have hmN7 : mN ≤ 7 := by have := HmN.out; omega
      have hnd : ns.Nodup := by rw [hns]; exact lk_nodup _ _
      have hlk : ∀ j, j < ns.length → natAt ns j < n := fun j hj => (lk_lt (p := fun i => adj i q.v) (by rw [← hns]; exact natAt_mem hj)).1
      have hnc : ∀ j, j < ns.length → ((idxs (fun i => adj i q.v) n).map (Value.int .i64))[j]? = some (.int .i64 (natAt ns j)) := fun j hj => by rw [hns]; exact idxs_at (by rw [← hns]; exact hj)
      have HNS := hid (And.intro hnd (And.intro hlk hnc))
      clear hns hnd hlk hnc
      go_loopw [10, 34] (fun qv iv wr => ∃ (j g' o' c' : Nat), j ≤ mN ∧ iv = .int .i64 ↑j ∧ qv = .slice (some ⟨g', o', none⟩) ((L ++ newsTo L q (ns.take j)).length - k) c' ∧ QAt w1.heap.size 3 wr (some ⟨g', o', none⟩) ((L ++ newsTo L q (ns.take j)).length - k) c' (vs ((L ++ newsTo L q (ns.take j)).drop k)) ∧
        wr.ownsRow w.heap.size 3 1 (.slice (some ⟨gF, 0, none⟩) n n) n (fromC n (L ++ newsTo L q (ns.take j))) ∧ Ext w wr ∧ w1.heap.size ≤ wr.heap.size ∧ wr.ownsRow wo.heap.size 3 1 (.slice AN mN cN) mN ((idxs (fun i => adj i q.v) n).map (Value.int .i64)) ∧ (Value.slice AN mN cN).ownBlock ≠ some g') (fun _ i _ => mN - (intOf i).toNat)
      case atStart =>
        have h0 : L ++ newsTo L q (ns.take 0) = L := by simp [newsTo]
        refine ⟨0, g, o, c, by omega, rfl, by rw [h0, ← HmL.out], ?_, ?_, HE2.out, by have := hs2.out; omega, HN.out, fun h1 => ?_⟩
        · rw [h0, ← HmL.out]; exact HQ2.out
        · rw [h0]; exact HF2.out
        · have := (HN.out.lt g h1).1; have := HX.out.2.2; omega
      case round =>
        obtain ⟨j, g', o', c', hj, rfl, rfl, hQ, hF, hE, hBx, hN, hne⟩ := hrel
        obtain ⟨hnd, hlk, hnc⟩ := HNS.out
        have hrest : (L ++ newsTo L q (ns.take j)).drop k = q :: (L.drop (k + 1) ++ newsTo L q (ns.take j)) := by
          rw [List.drop_append_of_le_length hk, HD.out]; rfl
        obtain ⟨M, hM⟩ : ∃ M, M = L ++ newsTo L q (ns.take j) := ⟨_, rfl⟩
        rw [← hM] at hQ hF hrest ⊢
        obtain ⟨mq, hmq⟩ : ∃ mq, mq = M.length - k := ⟨_, rfl⟩
        have hmq0 : 0 < mq := by rw [hmq, hM, List.length_append]; omega
        rw [← hmq] at hQ ⊢
        obtain ⟨_, _, hA, hg3, hg4, hcell⟩ := hQ.at_
        injection hA with hA; injection hA with hA1 hA2; subst hA1 hA2
        have c2 : wr.cell? ⟨g', o', none⟩ = some (.int .i64 q.v) := by have := hcell 0 _ (by rw [hrest]; rfl); simpa using this
        clear hcell
        by_cases hjt : j < mN
        · have hjn : j < ns.length := by have := HmN.out; omega
          obtain ⟨gN, hgN⟩ := own_addr hN (by omega)
          subst hgN
          have c3 : wr.cell? ⟨gN, j, none⟩ = some (.int .i64 (natAt ns j)) := by rw [hN.cellAt j (by omega)]; exact hnc j hjn
          have hv := hlk j hjn
          have hse := newsTo_seen (L := L) (q := q) hjn hnd
          have hst := newsTo_step (L := L) (q := q) hjn
          rw [← hM] at hse
          obtain ⟨v, hvv⟩ : ∃ v, v = natAt ns j := ⟨_, rfl⟩
          rw [← hvv] at c3 hv hse hst
          have c4 : wr.cell? ⟨gF, v, none⟩ = some (.int .i64 (parOf M v)) := by rw [hF.cellAt v (by omega)]; exact fromC_get hv
          have f4 : wr.frozen? ⟨gF, v, none⟩ = false := hF.frozenAt v
          have HQ := hid hQ
          have HF := hid hF
          have HE := hid hE
          have HN' := hid hN
          have HR := hid hrest
          have hmq20 : mq ≤ 20 := by
            have h1 := newsTo_len L q (ns.take j)
            rw [hmq, hM, List.length_append]
            rw [List.length_take] at h1
            omega
          have HVV := hid hvv
          have HMM := hid hM
          have HMQ := hid hmq
          clear hvv hM hmq hjn hQ hF hE hN hrest HQ2 HF2 HE2 HN hnc hlk hnd c1 c1'
          cases hs : seenIn L v
          · rw [hs] at hse hst
            have HM' := hid (show L ++ newsTo L q (ns.take (j + 1)) = M ++ [⟨v, q.v, q.d + 1⟩] by rw [hst, HMM.out]; simp)
            have HS := hid hse
            rw [parOf_none hse] at c4
            clear hst hse
            have hS := HF.out.stored v (.int .i64 q.v)
            have HF3 := hid hS.1
            have HG3 := hid hS.2
            have HQ3 := hid (HQ.out.kept hS.2 hB)
            clear hS
            go_wp2_with (at_builtin; refine wpList_pushQ rfl (.tmp 49) (.tmp 51) 31 rfl 3 Try.underlying31 info_int rfl w1.heap.size g' o' mq c' _ rfl (wr.setCell ⟨gF, v, none⟩ (.int .i64 q.v)) HQ3.out (by repeat (first | exact Ext.refl _ | refine Ext.alloc ?_ _ | assumption | refine Ext.over ?_ _ | refine Ext.drew ?_ | refine Ext.drewN ?_ _)) (by rw [World.size_setCell]; exact hBx) _ 1 (.int .i64 v) rfl (lit_cells _ _ (by first | (simp; done)) _ _) rfl (by omega) (by decide) ?_)
            intro g2 o2 c5 w3 hQ4 hgr hgg
            have HF4 := hid (HF3.out.kept hgr (.inr (by intro h1; have h2 : gF = g' := (by simpa [Value.ownBlock] using h1); omega)))
            have HN4 := hid ((HN'.out.kept HG3.out (.inr fun h1 => by have := (HN'.out.lt gF h1).1; have := HX.out.2.2; omega)).kept hgr (.inr hne))
            have HE3 := hid (Below.grown HE.out HG3.out HE.out.size (fun k hk => by injection hk with hk; omega))
            have HE4 := hid (Below.grown HE3.out hgr HE3.out.size (fun k hk => by injection hk with hk; omega))
            have HQ4 := hid hQ4
            have hB4 : w1.heap.size ≤ w3.heap.size := by have := hgr.size; rw [World.size_setCell] at this; omega
            have hne4 : (Value.slice (some ⟨gN, 0, none⟩) mN cN).ownBlock ≠ some g2 := by
              rcases hgg with rfl | h1
              · exact hne
              · intro h2
                have := (HN'.out.lt g2 h2).2
                try rw [World.size_setCell] at h1
                omega
            have HL4 := hid (show (L ++ newsTo L q (ns.take (j + 1))).length - k = mq + 1 by
              have h1 := HMQ.out
              have h2 := HMM.out
              have h3 : k ≤ M.length := by rw [h2, List.length_append]; omega
              rw [HM'.out, List.length_append, h1]; simp; omega)
            have HV4 := hid (show vs ((L ++ newsTo L q (ns.take (j + 1))).drop k) = vs (M.drop k) ++ [.int .i64 v] by
              have h2 := HMM.out
              rw [HM'.out, List.drop_append_of_le_length (by rw [h2, List.length_append]; omega)]
              simp [vs])
            have HFC := hid (show fromC n (L ++ newsTo L q (ns.take (j + 1))) = (fromC n M).set v (.int .i64 q.v) by
              rw [HM'.out]; exact fromC_snoc (x := ⟨v, q.v, q.d + 1⟩) hv HS.out)
            clear hQ4 hgr hgg HF3 HG3 HQ3 HQ HF HE HE3 hne
            go_wp2_with fail
            go_roundw
            case rel => exact ⟨j + 1, g2, o2, c5, by omega, by go_num, by rw [HL4.out], by rw [HL4.out, HV4.out]; exact HQ4.out, by rw [HFC.out]; exact HF4.out, HE4.out, hB4, HN4.out, hne4⟩
            case measure => simp [intOf]; omega
          · rw [hs] at hse hst
            have HM' := hid (show L ++ newsTo L q (ns.take (j + 1)) = M by rw [hst, HMM.out]; simp)
            obtain ⟨z, _, _, hz⟩ := parOf_seen hse
            rw [hz] at c4
            clear hst hse hz
            go_wp2_with fail
            go_roundw
            case rel => exact ⟨j + 1, g', o', c', by omega, by go_num, by rw [HM'.out, ← HMQ.out], by rw [HM'.out, ← HMQ.out]; exact HQ.out, by rw [HM'.out]; exact HF.out, HE.out, hBx, HN'.out, hne⟩
            case measure => simp [intOf]; omega
        · have hjn : ns.length ≤ j := by have := HmN.out; omega
          rw [newsTo_all hjn] at hM hrest
          rw [← HP.out] at hM
          have hcap := hQ.cap
          have hMl : L.length ≤ M.length := by rw [hM, HP.out, List.length_append]; omega
          have hHd := hid (show vs (M.drop k) = .int .i64 q.v :: vs (M.drop (k + 1)) by
            have : M.drop (k + 1) = (M.drop k).tail := by rw [List.tail_drop]
            rw [this, hrest]; rfl)
          have HR := hid (show ∀ B, (B = some ⟨g', o' + 1, none⟩ ∨ c' = 1 ∧ B = some ⟨g', o', none⟩) → Rnd n adj a w w.heap.size gF w1.heap.size (k + 1) (.slice B (mq - 1) (c' - 1)) wr from fun B hB' => by
            have h1 : mq - 1 = (bfs n adj a (k + 1)).length - (k + 1) := by rw [← hM, hmq]; omega
            obtain ⟨gB, oB, hBe⟩ : ∃ gB oB, B = some ⟨gB, oB, none⟩ := by
              rcases hB' with h | ⟨_, h⟩
              · exact ⟨_, _, h⟩
              · exact ⟨_, _, h⟩
            subst hBe
            refine ⟨gB, oB, c' - 1, by rw [← hM]; omega, by rw [h1], ?_, by rw [← hM]; exact hF, hE, hBx⟩
            rw [← h1, ← hM]
            have h2 := hQ
            rw [hHd.out, show mq = (mq - 1) + 1 by omega] at h2
            exact h2.tail hB')
          have HLE := hid (show ∀ v, Rnd n adj a w w.heap.size gF w1.heap.size (k + 1) v wr → (least fun m => ∃ k, k ≤ n ∧ Rnd n adj a w w.heap.size gF w1.heap.size k v wr ∧ m = n - k) < n - k from fun v hv => by
            have := (least_spec (p := fun m => ∃ k, k ≤ n ∧ Rnd n adj a w w.heap.size gF w1.heap.size k v wr ∧ m = n - k) ⟨_, k + 1, by omega, hv, rfl⟩).2 _ ⟨k + 1, by omega, hv, rfl⟩
            omega)
          clear hM hmq hrest hQ hF hE hN hne hMl
          by_cases hc' : c' = 1
          · have hmq1 : mq = 1 := by omega
            subst hc' hmq1
            have HR1 := hid (HR.out _ (.inr ⟨rfl, rfl⟩))
            clear HR
            go_wp2_with fail
            go_roundw
            case rel => exact ⟨k + 1, HR1.out⟩
            case measure => rw [HM.out]; exact HLE.out _ HR1.out
          · have HR1 := hid (HR.out _ (.inl rfl))
            clear HR
            go_wp2_with fail
            go_roundw
            case rel => exact ⟨k + 1, HR1.out⟩
            case measure => rw [HM.out]; exact HLE.out _ HR1.out
    · have hLt : L = tree n adj a := htr (by omega)
      have hdist : dist n adj a b = distOf L b := by unfold dist; rw [hLt]
      have c4 : wo.cell? ⟨gF, b, none⟩ = some (.int .i64 (parOf L b)) := by rw [hF.cellAt b (by omega)]; exact fromC_get hb
      obtain rfl : m = 0 := by omega
      have HF := hid hF
      have HI := hid hI
      have HE := hid hE
      have HLT := hid hLt
      have HDI := hid hdist
      clear hQ hF hI hE hL hst htr hLt hdist hmL HM
      cases hs : seenIn L b
      · have HD := hid (distOf_none hs)
        rw [parOf_none hs] at c4
        clear hs
        go_wp2_with fail
        go_ret
        exact ⟨HE.out, .inl ⟨by rw [HDI.out, HD.out]; decide, rfl⟩⟩
      · obtain ⟨x, hx, hxb, hpx⟩ := parOf_seen hs
        have hxd := hdl x hx
        have HD := hid (show dist n adj a b = x.d by rw [HDI.out, ← hxb]; exact distOf_mem HI.out.nodup hx)
        have HBK := hid (fun j (hj : j ≤ x.d) => by have := back_lt HI.out hx hj; rwa [hxb] at this)
        rw [hpx] at c4
        have HX := hid (And.intro hx hxb)
        clear hs hx hxb hpx hdl
        go_wp2_with fail
        go_loopw [2, 13] (fun bv ov wr => ∃ (j : Nat) (A' : Option Addr) (c' : Nat), j ≤ x.d ∧ bv = .int .i64 ↑(backTo L b j) ∧ ov = .slice A' (j + 1) c' ∧ wr.ownsRow wo.heap.size 3 1 (.slice A' (j + 1) c') (j + 1) ((wayB L b j).map (Value.int .i64)) ∧ Ext wo wr) (fun _ ov _ => x.d + 1 - lenV ov)
        case atStart => exact ⟨0, _, _, Nat.zero_le _, rfl, rfl, World.ownsRow_lit wo #[.int .i64 b] 1 (Nat.le_refl _) (by decide) rfl, by repeat (first | exact Ext.refl _ | refine Ext.alloc ?_ _ | assumption | refine Ext.over ?_ _ | refine Ext.drew ?_ | refine Ext.drewN ?_ _)⟩
        case round =>
          obtain ⟨j, A', c', hj, rfl, rfl, hown, he⟩ := hrel
          obtain ⟨v, hv⟩ : ∃ v, v = backTo L b j := ⟨_, rfl⟩
          obtain ⟨hvn, hva, hvs⟩ := HBK.out j hj
          rw [← hv] at hvn hva hvs ⊢
          have HV := hid hv
          have HO := hid hown
          have HE2 := hid (Ext.trans HE.out he)
          by_cases hjd : j < x.d
          · have c5 : wr.cell? ⟨gF, v, none⟩ = some (.int .i64 (parOf L v)) := by rw [(own_ext HF.out he).cellAt v (by omega)]; exact fromC_get hvn
            obtain ⟨z, _, _, hz⟩ := parOf_seen hvs
            have HZ := hid (show z.p = backTo L b (j + 1) by show z.p = (parOf L (backTo L b j)).toNat; rw [← HV.out, hz]; rfl)
            rw [hz] at c5
            have hne : ((v : Int) == (a : Int)) = false := by
              rw [beq_eq_false_iff_ne]
              intro e
              have := hva.1 (by omega)
              omega
            clear hz hvs hva hv hown c4
            go_wp2_with (at_builtin; refine wpList_push (wo) rfl (.tmp 68) (.tmp 70) 31 rfl 3 Try.underlying31 info_int rfl (by decide) _ (j + 1) _ rfl (wr) HO.out (by repeat (first | exact Ext.refl _ | refine Ext.alloc ?_ _ | assumption | refine Ext.over ?_ _ | refine Ext.drew ?_ | refine Ext.drewN ?_ _)) (by repeat (first | exact Ext.refl _ | refine Ext.alloc ?_ _ | assumption | refine Ext.over ?_ _ | refine Ext.drew ?_ | refine Ext.drewN ?_ _)) _ 1 1 [.int .i64 (z.p)] rfl rfl (lit_cells _ _ (by first | (simp; done) | simp [ovr_size]) _ _) (by intro u hu; simp at hu; subst hu; rfl) (by omega) (by decide) ?_)
            intro A2 c2 w3 hown3 he3
            have HO3 := hid hown3
            clear hown3 HO
            go_wp2_with fail
            go_roundw
            case rel => exact ⟨j + 1, A2, c2, by omega, by rw [← HZ.out], rfl, by rw [wayB_step, ← HZ.out]; simpa using HO3.out, he3⟩
            case measure => simp only [lenV]; omega
          · have hjx : j = x.d := by omega
            subst hjx
            have hvA := hva.2 rfl
            subst hvA
            clear hv hva hvs hown
            obtain ⟨gA, hA⟩ := own_addr HO.out (by omega)
            subst hA
            go_wp2_with fail
            refine (Reverse_any gA (x.d + 1) c' wo.heap.size (wayB L b x.d) wr HO.out (by omega)).mono ?_
            rintro _ w4 ⟨rfl, ho4, hg4⟩
            have hgA := (HO.out.lt gA rfl).1
            have HE4 := hid (Below.grown HE2.out hg4 HE2.out.size (fun k hk => by injection hk with hk; have := HE.out.size; omega))
            have HO4 := hid ho4
            clear ho4 hg4
            go_wp2_with fail
            go_ret
            refine ⟨HE4.out, .inr ⟨by rw [HD.out]; omega, ?_⟩⟩
            rw [HD.out, Int.toNat_natCast, ← HLT.out]
            exact ⟨_, _, rfl, own_base HO4.out HE.out.size⟩
end Go.Proofs.Ytngniniiohgilaa
