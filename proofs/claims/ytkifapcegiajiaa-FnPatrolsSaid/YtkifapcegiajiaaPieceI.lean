/- Walks: the program's pieces from every corner to a point. Conditions: a valid room. -/
import Derived.Test.YtkifapcegiajiaaPieceT
import Derived.Test.YtkifapcegiajiaaRepeat
namespace Go.Proofs.Ytkifapcegiajiaa
open Go.RowKit
set_option linter.unusedVariables false

/-- What the rounds of the search keep: k nodes have been taken from the queues. -/
def RndP (A : Option Addr) (c : Nat) (L : List T2) (p q : T2) (w : World) (F : List T2) (gn on_ cn gd k : Nat) (qv lv : Value) (wr : World) : Prop :=
  ∃ gq oq cq gl ol cl, k ≤ (bG L F q k).length ∧ qv = .slice (some ⟨gq, oq, none⟩) ((bG L F q k).length - k) cq ∧ lv = .slice (some ⟨gl, ol, none⟩) ((bG L F q k).length - k) cl ∧
    PT A c L p q w F gn on_ cn gd (dC F q (bG L F q k)) gq oq cq ((bG L F q k).length - k) (qx F q ((bG L F q k).drop k)) gl ol cl (qd ((bG L F q k).drop k)) wr
theorem bG_len (L F : List T2) (q : T2) (k : Nat) : (bG L F q k).length ≤ F.length + 1 := bfs_len (by omega) k
set_option maxHeartbeats 1600000 in
set_option maxRecDepth 100000 in
theorem piecesTo_any (A : Option Addr) (n c : Nat) (L : List T2) (p q : T2) (w : World) (hl : Row w A (L.flatMap T2.v)) (hn : L.length = n) (hro : roomS L = true) (hp : pokT p = true) (hq : pokT q = true) :
    Calls Try.prog 38 #[.agg #[.slice A n c], ptV p, ptV q] w fun en w' => ∃ g d, en = .returned (.tuple #[.slice (some ⟨g, 0, none⟩) n d, .int .i64 (distF L (L ++ [p]) q n)]) ∧ w'.ownsRow w.heap.size 3 1 (.slice (some ⟨g, 0, none⟩) n d) n ((List.range n).map fun v => .int .i64 (distF L (L ++ [p]) q v)) ∧ Ext w w' := by
  subst hn
  have hr := roomP_of hro
  have hn10 : L.length ≤ 10 := hr.hi
  have HNO := hid (show A = none → c = 0 from fun h => by
    subst h
    obtain ⟨_, _, hA, _⟩ := hl.t2 (i := 0) (by have := hr.lo; omega)
    cases hA)
  have HP := hid (And.intro hp hq)
  have HSE := hid (fun a b w' (h : Row w' A (L.flatMap T2.v)) ha hb => sees_any A L.length c L a b w' h rfl hro ha hb)
  have HL := hid hl
  have HRP := hid hr
  clear hl hp hq hr
  unfold ptV at *
  have HC0 := hid (show Cw A L.length c q w (((w.alloc (.cells #[.slice A L.length c] 33)).alloc (.cells #[.int .i64 p.a, .int .i64 p.b] 35)).alloc (.cells #[.int .i64 q.a, .int .i64 q.b] 35)) p from ⟨by repeat (first | exact Ext.refl _ | refine Ext.alloc ?_ _ | assumption | refine Ext.over ?_ _ | refine Ext.drew ?_ | refine Ext.drewN ?_ _), by go_simp, ⟨by go_simp, by go_simp, by go_simp, by go_simp⟩, by go_simp, by go_simp⟩)
  go_enter Try.func38, Try.ntmps38
  go_wp2_with fail
  apply two_ways
  case h =>
    intro KEY
    replace KEY := hid KEY
    refine wp_region_x [.q 0, .q 1, .q 3, .s 2 4, .u 5, .u 6] (by kernel_rfl) (by kernel_rfl) (fun w1 e1 => ?_)
    have HC1 := hid (HC0.out.ext e1)
    have r0 := HC1.out.rb
    have p0 := HC1.out.pb.1
    have p1 := HC1.out.pb.2.1
    clear e1
    simp only [pick, List.getElem?_cons_succ, List.getElem?_cons_zero]
    repeat (refine wpZ_q (fun K hK => ?_); go_simp; refine hK _ ?_; clear hK K)
    refine wpZ_s ?_ ?_
    · refine stepH_of (fun K hK => ?_)
      go_simp
      refine (copyPoints_any A L.length c L w1 (HL.out.ext HC1.out.E) rfl (by omega) HNO.out).mono ?_
      rintro _ w3 ⟨A', c1, rfl, ho, he3⟩
      refine ⟨_, rfl, hK _ _ he3 ?_⟩; clear hK K
      refine stepH_of (fun K hK => ?_)
      go_simp
      refine hK _ _ (Below.alloc (Below.refl _ _) he3.size _) ?_; clear hK K
      have HO4 := hid (own_ext ho (show Ext w3 (w3.alloc (.cells #[.int .i64 p.a, .int .i64 p.b] 35)) by repeat (first | exact Ext.refl _ | refine Ext.alloc ?_ _ | assumption | refine Ext.over ?_ _ | refine Ext.drew ?_ | refine Ext.drewN ?_ _)))
      have E4 := hid (show Ext w1 (w3.alloc (.cells #[.int .i64 p.a, .int .i64 p.b] 35)) from he3.trans (by repeat (first | exact Ext.refl _ | refine Ext.alloc ?_ _ | assumption | refine Ext.over ?_ _ | refine Ext.drew ?_ | refine Ext.drewN ?_ _)))
      have HC4 := hid (lit_cells w3 w3.heap.size rfl [.int .i64 p.a, .int .i64 p.b] 35)
      clear ho he3
      refine wpZ_u ?_
      refine stepH_of (fun K hK => ?_)
      rw [if_pos (by rfl)]
      refine her_push w1 (.tmp 19) (.tmp 21) 31 rfl 35 Try.underlying31 info_PointC rfl (by decide) _ L.length (L.flatMap T2.v) rfl HO4.out E4.out _ 1 1 [.int .i64 p.a, .int .i64 p.b] rfl rfl HC4.out (by intro u hu; simp at hu; rcases hu with rfl | rfl <;> rfl) (by omega) (by omega) (by decide) ?_
      intro g cap w5 ho5 he5 hg5
      refine hK _ _ (grown_below hg5 HO4.out (Nat.le_refl _) E4.out.size) ?_; clear hK K
      have HC5 := hid (HC1.out.ext he5)
      have HN5 := hid (show QB (w.heap.size + 3) 35 w5 (some ⟨g, 0, none⟩) (L ++ [p]).length cap ((L ++ [p]).flatMap T2.v) by
        rw [List.length_append, List.flatMap_append]
        exact own_wholeB (own_base ho5 HC1.out.size) (by simp))
      clear ho5 he5 hg5 HO4 E4 HC4 HC1 r0 p0 p1
      ((first | refine wpZ_u ?_ | skip); refine stepH_of (fun K hK => ?_); go_simp; refine hK _ _ (Below.refl _ _) ?_; clear hK K)
      refine wpZ_nil ?_
      generalize w3.heap.size = gp at *
      have F := And.intro HC5 HN5
      clear HC5 HN5
      revert F
      revert w5
      revert cap
      revert g
      revert c1
      revert A'
      revert gp
      exact KEY.out
    · refine stepH_of (fun K hK => ?_)
      go_simp
      refine hK _ _ (Below.alloc (Below.refl _ _) (Nat.le_refl _) _) ?_; clear hK K
      obtain ⟨w2, hw2⟩ : ∃ w2, w2 = w1.alloc (.cells #[.int .i64 p.a, .int .i64 p.b] 35) := ⟨_, rfl⟩
      have e2 : Ext w1 w2 := by rw [hw2]; repeat (first | exact Ext.refl _ | refine Ext.alloc ?_ _ | assumption | refine Ext.over ?_ _ | refine Ext.drew ?_ | refine Ext.drewN ?_ _)
      have HC2 := hid (show ∀ j u, [Value.int .i64 p.a, Value.int .i64 p.b][j]? = some u → w2.cell? ((⟨w1.heap.size, 0, none⟩ : Addr).add j) = some u by rw [hw2]; exact lit_cells w1 w1.heap.size rfl [.int .i64 p.a, .int .i64 p.b] 35)
      rw [← hw2]
      clear hw2
      refine stepH_of (fun K hK => ?_)
      go_simp
      refine (copyPoints_any A L.length c L w2 (HL.out.ext (HC1.out.E.trans e2)) rfl (by omega) HNO.out).mono ?_
      rintro _ w3 ⟨A', c1, rfl, ho, he3⟩
      refine ⟨_, rfl, hK _ _ (ext_below he3 e2.size) ?_⟩; clear hK K
      have HO4 := hid (own_base (base' := w1.heap.size) ho e2.size)
      have E4 := hid (e2.trans he3)
      have HC4 := hid (show ∀ j u, [Value.int .i64 p.a, Value.int .i64 p.b][j]? = some u → w3.cell? ((⟨w1.heap.size, 0, none⟩ : Addr).add j) = some u from fun j u hu => old_cell he3 (HC2.out j u hu))
      clear ho he3 e2 HC2
      refine wpZ_u ?_
      refine stepH_of (fun K hK => ?_)
      rw [if_pos (by rfl)]
      refine her_push w1 (.tmp 19) (.tmp 21) 31 rfl 35 Try.underlying31 info_PointC rfl (by decide) _ L.length (L.flatMap T2.v) rfl HO4.out E4.out _ 1 1 [.int .i64 p.a, .int .i64 p.b] rfl rfl HC4.out (by intro u hu; simp at hu; rcases hu with rfl | rfl <;> rfl) (by omega) (by omega) (by decide) ?_
      intro g cap w5 ho5 he5 hg5
      refine hK _ _ (grown_below hg5 HO4.out (Nat.le_refl _) E4.out.size) ?_; clear hK K
      have HC5 := hid (HC1.out.ext he5)
      have HN5 := hid (show QB (w.heap.size + 3) 35 w5 (some ⟨g, 0, none⟩) (L ++ [p]).length cap ((L ++ [p]).flatMap T2.v) by
        rw [List.length_append, List.flatMap_append]
        exact own_wholeB (own_base ho5 HC1.out.size) (by simp))
      clear ho5 he5 hg5 HO4 E4 HC4 HC1 r0 p0 p1
      ((first | refine wpZ_u ?_ | skip); refine stepH_of (fun K hK => ?_); go_simp; refine hK _ _ (Below.refl _ _) ?_; clear hK K)
      refine wpZ_nil ?_
      generalize w1.heap.size = gp at *
      have F := And.intro HC5 HN5
      clear HC5 HN5
      revert F
      revert w5
      revert cap
      revert g
      revert c1
      revert A'
      revert gp
      exact KEY.out
  case p =>
    rintro gp A' c1 gn cn w5 ⟨HC5, HN5⟩
    have HC5 := hid HC5.out
    have HN5 := hid HN5.out
    clear HC0
    obtain ⟨F, hF⟩ : ∃ F, F = L ++ [p] := ⟨_, rfl⟩
    have hm : L.length + 1 = F.length := by rw [hF]; simp
    have hm11 : F.length ≤ 11 := by omega
    have hm1 : 1 ≤ F.length := by omega
    rw [← hF] at HN5
    rw [hm]
    have HF := hid hF
    have HM := hid hm
    have HPF := hid (show ∀ j, j < F.length → pokT (at2 F j) = true from fun j hj => by
      rw [hF]
      rcases Nat.lt_or_ge j L.length with h | h
      · rw [at2_app h]; exact HRP.out.pok j h
      · rw [show j = L.length by omega, at2_last]; exact HP.out.1)
    clear hF hm
    have hgn := HN5.out.at_.2.1
    have HGN := hid hgn
    clear hgn
    generalize hGA : (some (⟨gn, 0, none⟩ : Addr)) = GA at HN5 ⊢
    obtain ⟨on_, hGB⟩ : ∃ o : Nat, GA = some (⟨gn, o, none⟩ : Addr) := ⟨0, hGA.symm⟩
    clear hGA
    subst hGB
    go_wp2_with fail
    refine (Repeat_any F.length w5.heap.size 1 _ hm1 hm11 (by go_simp)).mono ?_
    rintro _ w6 ⟨gd, rfl, ho, he⟩
    have hgd := ho.lt gd rfl
    have HS6 := hid (show w5.heap.size + 1 ≤ gd ∧ gd < w6.heap.size by have := hgd.1; simp at this; exact ⟨this, hgd.2⟩)
    have HC6 := hid (HC5.out.ext (Ext.trans (by repeat (first | exact Ext.refl _ | refine Ext.alloc ?_ _ | assumption | refine Ext.over ?_ _ | refine Ext.drew ?_ | refine Ext.drewN ?_ _)) he))
    have HN6 := hid (HN5.out.ext (Ext.trans (by repeat (first | exact Ext.refl _ | refine Ext.alloc ?_ _ | assumption | refine Ext.over ?_ _ | refine Ext.drew ?_ | refine Ext.drewN ?_ _)) he))
    have HD6 := hid (own_base (base' := w.heap.size + 3) ho (by have := HC5.out.size; simp; omega))
    clear ho he hgd HC5 HN5
    have q0 := HC6.out.q0
    have q1 := HC6.out.q1
    go_wp2_with fail
    have HT7 := hid (show PT A c L p q w F gn on_ cn gd (d0C F q 0) w6.heap.size 0 1 1 [q] (w6.heap.size + 1) 0 1 [0] ((w6.alloc (.cells #[.int .i64 q.a, .int .i64 q.b] 35)).alloc (.cells #[.int .i64 0] 3)) from by
      have hw := HC6.out.size
      have h1 := World.ownsRow_lit (base := w6.heap.size) (e := 35) (size := 2) w6 #[.int .i64 q.a, .int .i64 q.b] 1 (by simp) (by decide) rfl
      have h2 := World.ownsRow_lit (base := w6.heap.size + 1) (e := 3) (size := 1) (w6.alloc (.cells #[.int .i64 q.a, .int .i64 q.b] 35)) #[.int .i64 0] 1 (by simp) (by decide) rfl
      have hn := HGN.out
      have hs := HS6.out
      refine ⟨HC6.out.ext (by repeat (first | exact Ext.refl _ | refine Ext.alloc ?_ _ | assumption | refine Ext.over ?_ _ | refine Ext.drew ?_ | refine Ext.drewN ?_ _)), HN6.out.ext (by repeat (first | exact Ext.refl _ | refine Ext.alloc ?_ _ | assumption | refine Ext.over ?_ _ | refine Ext.drew ?_ | refine Ext.drewN ?_ _)), own_ext (by rw [d0C_zero]; exact HD6.out) (by repeat (first | exact Ext.refl _ | refine Ext.alloc ?_ _ | assumption | refine Ext.over ?_ _ | refine Ext.drew ?_ | refine Ext.drewN ?_ _)), (own_wholeB (own_base h1 (by omega)) (by simp)).ext (by repeat (first | exact Ext.refl _ | refine Ext.alloc ?_ _ | assumption | refine Ext.over ?_ _ | refine Ext.drew ?_ | refine Ext.drewN ?_ _)), ?_, ⟨by omega, by omega, by omega⟩, by omega, by omega, by omega⟩
      have h3 := own_whole (own_base (base' := w.heap.size + 3) h2 (by omega)) (by simp)
      simpa [vl] using h3)
    clear HC6 HN6 HD6 HS6 HGN q0 q1
    generalize ((w6.alloc (.cells #[.int .i64 q.a, .int .i64 q.b] 35)).alloc (.cells #[.int .i64 0] 3)) = w7 at HT7 ⊢
    generalize w6.heap.size + 1 = gl at HT7 ⊢
    generalize w6.heap.size = gq at HT7 ⊢
    go_loopw [32] (fun kv wr => ∃ (k : Nat), k ≤ F.length ∧ kv = .int .i64 ↑k ∧ PT A c L p q w F gn on_ cn gd (d0C F q k) gq 0 1 1 [q] gl 0 1 [0] wr) (fun kv _ => F.length - (intOf kv).toNat)
    case atStart => exact ⟨0, Nat.zero_le _, rfl, HT7.out⟩
    case round =>
      clear HT7
      obtain ⟨k, hk, rfl, hT⟩ := hrel
      have HT := hid hT
      have q0 := hT.C.q0
      have q1 := hT.C.q1
      by_cases hlt : k < F.length
      · have hkt : (k : Int) < F.length := by omega
        obtain ⟨g0, g1⟩ := hT.node hlt
        have hd0 : wr.cell? ⟨gd, k, none⟩ = some (.int .i64 (d0 F q k k)) := by rw [hT.D.cellAt k (by omega)]; exact d0C_get hlt
        have hf0 := hT.D.frozenAt k
        clear hT
        cases heq : eqP (at2 F k) q
        case true =>
          have hx := eqP_iff.1 heq
          have HE := hid (d0C_yes hlt heq)
          have e1 : ((at2 F k).a == q.a) = true := by rw [hx]; simp
          have e2 : ((at2 F k).b == q.b) = true := by rw [hx]; simp
          clear hx heq
          generalize (at2 F k).a = xa at *
          generalize (at2 F k).b = xb at *
          go_wp2_with fail
          go_roundw
          case rel => exact ⟨k + 1, by omega, by go_num, by rw [HE.out]; exact (HT.out.put k _).ext (by repeat (first | exact Ext.refl _ | refine Ext.alloc ?_ _ | assumption | refine Ext.over ?_ _ | refine Ext.drew ?_ | refine Ext.drewN ?_ _))⟩
          case measure => simp [intOf]; omega
        case false =>
          have hcase : ((at2 F k).a == q.a) = false ∨ (((at2 F k).a == q.a) = true ∧ ((at2 F k).b == q.b) = false) := by
            by_cases ha : (at2 F k).a = q.a
            · refine .inr ⟨by simpa using ha, ?_⟩
              rw [beq_eq_false_iff_ne]
              intro hb
              have h3 : at2 F k = q := by
                obtain ⟨u, hu⟩ : ∃ u, u = at2 F k := ⟨_, rfl⟩
                rw [← hu] at ha hb ⊢
                cases u; cases q; simp only at ha hb; rw [ha, hb]
              rw [eqP_iff.2 h3] at heq
              cases heq
            · exact .inl (by rw [beq_eq_false_iff_ne]; exact ha)
          have HE := hid (d0C_no heq)
          clear heq
          rcases hcase with e1 | ⟨e1, e2⟩
          all_goals
            go_wp2_with fail
            go_roundw
            case rel => exact ⟨k + 1, by omega, by go_num, by rw [HE.out]; exact HT.out.ext (by repeat (first | exact Ext.refl _ | refine Ext.alloc ?_ _ | assumption | refine Ext.over ?_ _ | refine Ext.drew ?_ | refine Ext.drewN ?_ _))⟩
            case measure => simp [intOf]; omega
      · obtain rfl : k = F.length := by omega
        have HT0 := hid hT
        clear hT HT q0 q1
        rename World => wf
        go_wp2_with fail
        go_loopw [10, 11] (fun qv lv wr => ∃ k, RndP A c L p q w F gn on_ cn gd k qv lv wr) (fun qv lv wr => least fun m => ∃ k, k ≤ F.length + 1 ∧ RndP A c L p q w F gn on_ cn gd k qv lv wr ∧ m = F.length + 1 - k)
        case atStart =>
          refine ⟨0, gq, 0, 1, gl, 0, 1, Nat.zero_le _, rfl, rfl, ?_⟩
          have h1 : qx F q ((bG L F q 0).drop 0) = [q] := by
            rw [bG_zero]; unfold qx rt; simp [at2_last]
          rw [h1, ← d0C_end]
          exact HT0.out
        case round =>
          clear HT0
          rename World => wo
          have hex : ∃ m, ∃ k, k ≤ F.length + 1 ∧ RndP A c L p q w F gn on_ cn gd k u10 u11 wo ∧ m = F.length + 1 - k := by
            obtain ⟨k, hr⟩ := hrel
            have h1 := bG_len L F q k
            obtain ⟨_, _, _, _, _, _, hk, _⟩ := id hr
            exact ⟨_, k, by omega, hr, rfl⟩
          clear hrel
          obtain ⟨hls, _⟩ := least_spec hex
          obtain ⟨k, hkn, ⟨gq, oq, cq, gl, ol, cl, hk, hq1, hq2, hT⟩, hm⟩ := hls
          subst hq1 hq2
          clear hex
          have HI := hid (bG_inv (L := L) (F := F) (q := q) k)
          have hnext := bG_next (L := L) (F := F) (q := q) (k := k)
          have hLn := bG_len L F q k
          have HDL := hid (fun z hz => depth_lt (n := F.length + 1) (adj := adjG L F q) (a := F.length) (k := k) (by omega) (x := z) hz)
          have HEND := hid (dC_end (L := L) (F := F) (q := q) (k := k))
          change Hid (∀ z, z ∈ bG L F q k → _) at HDL
          generalize hB : bG L F q k = B at hm hk hT hnext hLn HI HDL HEND ⊢
          obtain ⟨mq, hmq⟩ : ∃ mq, mq = B.length - k := ⟨_, rfl⟩
          rw [← hmq] at hT hm ⊢
          have HM2 := hid hm
          have HBB := hid hB
          clear hm hB
          by_cases hlt : k < B.length
          · have hpre := hnext hlt
            obtain ⟨y, hy⟩ : ∃ y, y = ndAt B k := ⟨_, rfl⟩
            have hdrop : B.drop k = y :: B.drop (k + 1) := by rw [hy, ndAt_eq _ _ hlt]; exact List.drop_eq_getElem_cons hlt
            have hyB : y ∈ B := by rw [hy]; exact ndAt_mem hlt
            have hyv := HI.out.lt y hyB
            have hyd := HDL.out y hyB
            rw [← hy] at hpre
            obtain ⟨yp, hyp⟩ : ∃ yp, yp = at2 (F ++ [q]) y.v := ⟨_, rfl⟩
            have hypk : pokT yp = true := by
              rw [hyp]
              rcases Nat.lt_or_ge y.v F.length with h | h
              · rw [at2_app h]; exact HPF.out _ h
              · rw [show y.v = F.length by omega, at2_last]; exact HP.out.2
            have HADJ := hid (show ∀ j, j < F.length → adjG L F q j y.v = (!isE F q j && seesS L yp (at2 F j)) from fun j hj => by
              rw [adj_val hj, ← hyp, seesS_symm HRP.out (small_pok (HPF.out j hj)) (small_pok hypk)])
            have HYP := hid hypk
            have HYE := hid hyp
            have HPRE := hid hpre
            have HDR := hid hdrop
            have HMQ := hid hmq
            have HT1 := hid hT
            have hm0 : 0 < mq := by omega
            have hyd12 : y.d ≤ 12 := by omega
            clear hT hy hyB hyv hyd hpre hdrop hmq hyp hypk hnext HI HDL HEND
            go_wp2_with fail
            rename World => wq
            go_loopw [10, 11, 53] (fun qv lv iv wr => ∃ (j gq oq cq gl ol cl : Nat), j ≤ F.length ∧ iv = .int .i64 ↑j ∧ qv = .slice (some ⟨gq, oq, none⟩) ((B ++ newsG L F q j B y).length - k) cq ∧ lv = .slice (some ⟨gl, ol, none⟩) ((B ++ newsG L F q j B y).length - k) cl ∧
              PT A c L p q w F gn on_ cn gd (dC F q (B ++ newsG L F q j B y)) gq oq cq ((B ++ newsG L F q j B y).length - k) (qx F q ((B ++ newsG L F q j B y).drop k)) gl ol cl (qd ((B ++ newsG L F q j B y).drop k)) wr) (fun _ _ iv _ => F.length - (intOf iv).toNat)
            case atStart =>
              have h0 : B ++ newsG L F q 0 B y = B := by rw [show newsG L F q 0 B y = [] from rfl, List.append_nil]
              exact ⟨0, gq, oq, cq, gl, ol, cl, Nat.zero_le _, rfl, by rw [h0, ← HMQ.out], by rw [h0, ← HMQ.out], by rw [h0, ← HMQ.out]; exact HT1.out⟩
            case round =>
              clear HT1
              obtain ⟨j, gq, oq, cq, gl, ol, cl, hj, rfl, rfl, rfl, hT⟩ := hrel
              obtain ⟨M, hM⟩ : ∃ M, M = B ++ newsG L F q j B y := ⟨_, rfl⟩
              have hnst : newsG L F q (j + 1) B y = newsG L F q j B y ++ if (!seenIn B j && adjG L F q j y.v) = true then [⟨j, y.v, y.d + 1⟩] else [] := news_step j _ B y
              have hns : seenIn M j = seenIn B j := by rw [hM]; exact news_seen j _ B y
              have hMr : M.drop k = y :: (B.drop (k + 1) ++ newsG L F q j B y) := by rw [hM, List.drop_append_of_le_length hk, HDR.out]; rfl
              have hMl : M.length ≤ 24 := by
                have h2 : (newsG L F q j B y).length ≤ j := news_len j _ B y
                rw [hM, List.length_append]; omega
              have hMk : k < M.length := by rw [hM, List.length_append]; omega
              rw [← hM] at hT ⊢
              have HMM := hid hM
              obtain ⟨mj, hmj⟩ : ∃ mj, mj = M.length - k := ⟨_, rfl⟩
              have hmj0 : 0 < mj := by omega
              have hmj24 : mj ≤ 24 := by omega
              rw [← hmj] at hT ⊢
              obtain ⟨rest, hrest⟩ : ∃ rest, M.drop k = y :: rest := ⟨_, hMr⟩
              have hfirst : (wr.cell? ⟨gq, oq, none⟩ = some (.int .i64 yp.a) ∧ wr.cell? ⟨gq, oq + 1, none⟩ = some (.int .i64 yp.b)) ∧ wr.cell? ⟨gl, ol, none⟩ = some (.int .i64 (y.d : Int)) := by
                have h := hT
                rw [hrest] at h
                rw [HYE.out]
                exact PT.first (x := at2 (F ++ [q]) y.v) (d := y.d) (xs := qx F q rest) (ds := qd rest) h
              have HT := hid hT
              have HRE := hid hrest
              have HMJ := hid hmj
              have r0 := hT.C.rb
              obtain ⟨⟨z0, z1⟩, z2⟩ := hfirst
              clear hM hMr hmj hrest
              by_cases hjt : j < F.length
              · have hjt' : (j : Int) < F.length := by omega
                have hadj := HADJ.out j hjt
                obtain ⟨g0, g1⟩ := hT.node hjt
                have c2 : wr.cell? ⟨gd, j, none⟩ = some (.int .i64 (dv F q M j)) := by rw [hT.D.cellAt j (by omega)]; exact dC_get hjt
                have HRW := hid (HL.out.ext hT.C.E)
                have HPJ := hid (HPF.out j hjt)
                clear hT
                by_cases hskip : isE F q j = true ∨ seenIn B j = true
                · have HM' := hid (show B ++ newsG L F q (j + 1) B y = M by
                    rw [hnst, HMM.out, hadj]
                    rcases hskip with h | h <;> simp [h])
                  obtain ⟨dz, hdz, hdd⟩ : ∃ dz : Int, decide (dz < 0) = false ∧ dv F q M j = dz := by
                    unfold dv
                    rcases hskip with h | h
                    · exact ⟨0, by simp, by rw [h]; rfl⟩
                    · obtain ⟨dd, hdd⟩ := distOf_seen (hns.trans h)
                      cases h2 : isE F q j
                      · exact ⟨dd, by simp, by rw [hdd]; rfl⟩
                      · exact ⟨0, by simp, rfl⟩
                  rw [hdd] at c2
                  clear hnst hns hskip hdd hadj HADJ
                  go_wp2_with fail
                  (refine wp_region_calm (by kernel_rfl) (by kernel_rfl) ?_; (repeat (go_big_quiet_step (fail))); refine wpQuiet_nil ?_; rintro w1 ⟨x1, rfl⟩)
                  go_wp2_with fail
                  go_roundw
                  case rel => exact ⟨j + 1, gq, oq, cq, gl, ol, cl, by omega, by go_num, by rw [HM'.out, ← HMJ.out], by rw [HM'.out, ← HMJ.out], by rw [HM'.out, ← HMJ.out]; exact HT.out.ext (by repeat (first | exact Ext.refl _ | refine Ext.alloc ?_ _ | assumption | refine Ext.over ?_ _ | refine Ext.drew ?_ | refine Ext.drewN ?_ _))⟩
                  case measure => simp [intOf]; omega
                · have he : isE F q j = false := by cases h : isE F q j; rfl; exact absurd (.inl h) hskip
                  have hs : seenIn B j = false := by cases h : seenIn B j; rfl; exact absurd (.inr h) hskip
                  have hdd : dv F q M j = -1 := by unfold dv; rw [he, if_neg (by simp), distOf_none (hns.trans hs)]
                  rw [hdd] at c2
                  cases hse : seesS L yp (at2 F j)
                  · have HM' := hid (show B ++ newsG L F q (j + 1) B y = M by rw [hnst, HMM.out, hadj, hse]; simp)
                    clear hnst hns hskip hdd hadj HADJ
                    go_wp2_with fail
                    (refine wp_region_calm (by kernel_rfl) (by kernel_rfl) ?_; (repeat (go_big_quiet_step ((go_at_call 39; exact (gives_b hse (HSE.out yp (at2 F j) _ (HRW.out.ext (by repeat (first | exact Ext.refl _ | refine Ext.alloc ?_ _ | assumption | refine Ext.over ?_ _ | refine Ext.drew ?_ | refine Ext.drewN ?_ _))) HYP.out HPJ.out)).calm)))); refine wpQuiet_nil ?_; rintro w1 ⟨x1, rfl⟩)
                    go_wp2_with fail
                    go_roundw
                    case rel => exact ⟨j + 1, gq, oq, cq, gl, ol, cl, by omega, by go_num, by rw [HM'.out, ← HMJ.out], by rw [HM'.out, ← HMJ.out], by rw [HM'.out, ← HMJ.out]; exact HT.out.ext (by repeat (first | exact Ext.refl _ | refine Ext.alloc ?_ _ | assumption | refine Ext.over ?_ _ | refine Ext.drew ?_ | refine Ext.drewN ?_ _))⟩
                    case measure => simp [intOf]; omega
                  · have HM' := hid (show B ++ newsG L F q (j + 1) B y = M ++ [⟨j, y.v, y.d + 1⟩] by rw [hnst, HMM.out, hadj, hse, he, hs]; simp)
                    have HCAST := hid (show ((y.d + 1 : Nat) : Int) = (y.d : Int) + 1 by omega)
                    have HDC := hid (show dC F q (M ++ [⟨j, y.v, y.d + 1⟩]) = (dC F q M).set j (.int .i64 ((y.d : Int) + 1)) by
                      have h := dC_snoc (F := F) (q := q) (B := M) (x := ⟨j, y.v, y.d + 1⟩) (hns.trans hs) he
                      rw [h]
                      show (dC F q M).set j (.int .i64 ((y.d + 1 : Nat) : Int)) = _
                      rw [HCAST.out])
                    have HLEN := hid (show (M ++ [(⟨j, y.v, y.d + 1⟩ : Nd)]).length - k = mj + 1 by rw [List.length_append, HMJ.out]; simp; omega)
                    have HQX := hid (show qx F q ((M ++ [(⟨j, y.v, y.d + 1⟩ : Nd)]).drop k) = qx F q (M.drop k) ++ [at2 F j] by
                      rw [List.drop_append_of_le_length (by omega)]; unfold qx; rw [List.map_append]; simp [at2_app hjt])
                    have HQD := hid (show qd ((M ++ [(⟨j, y.v, y.d + 1⟩ : Nd)]).drop k) = qd (M.drop k) ++ [y.d + 1] by
                      rw [List.drop_append_of_le_length (by omega)]; unfold qd; rw [List.map_append]; rfl)
                    clear hnst hns hskip hdd hadj HADJ
                    go_wp2_with fail
                    (refine wp_region_calm (by kernel_rfl) (by kernel_rfl) ?_; (repeat (go_big_quiet_step ((go_at_call 39; exact (gives_b hse (HSE.out yp (at2 F j) _ (HRW.out.ext (by repeat (first | exact Ext.refl _ | refine Ext.alloc ?_ _ | assumption | refine Ext.over ?_ _ | refine Ext.drew ?_ | refine Ext.drewN ?_ _))) HYP.out HPJ.out)).calm)))); refine wpQuiet_nil ?_; rintro w1 ⟨x1, rfl⟩)
                    have HT2 := hid (HT.out.ext (show Ext wr (ovr (wr.alloc (.cells #[.int .i64 (at2 F j).a, .int .i64 (at2 F j).b] 35)) x1) by repeat (first | exact Ext.refl _ | refine Ext.alloc ?_ _ | assumption | refine Ext.over ?_ _ | refine Ext.drew ?_ | refine Ext.drewN ?_ _)))
                    have xb0 : (ovr (wr.alloc (.cells #[.int .i64 (at2 F j).a, .int .i64 (at2 F j).b] 35)) x1).cell? ⟨wr.heap.size, 0, none⟩ = some (.int .i64 (at2 F j).a) := by go_simp
                    have xb1 : (ovr (wr.alloc (.cells #[.int .i64 (at2 F j).a, .int .i64 (at2 F j).b] 35)) x1).cell? ⟨wr.heap.size, 1, none⟩ = some (.int .i64 (at2 F j).b) := by go_simp
                    have hxs : wr.heap.size < (ovr (wr.alloc (.cells #[.int .i64 (at2 F j).a, .int .i64 (at2 F j).b] 35)) x1).heap.size := World.block_lt_of_cell? _ _ xb0
                    have hgdx : gd < wr.heap.size := (HT.out.D.lt gd rfl).2
                    have hglx : gl < wr.heap.size := HT.out.S.lo.2.1
                    have HGX := hid (show ¬ wr.heap.size = gq by have := HT.out.Q.at_.2.1; omega)
                    clear z0 z1 z2 c2 g0 g1 r0 HT
                    generalize ovr (wr.alloc (.cells #[.int .i64 (at2 F j).a, .int .i64 (at2 F j).b] 35)) x1 = wv at *
                    generalize wr.heap.size = gx at *
                    have z2 : wv.cell? ⟨gl, ol, none⟩ = some (.int .i64 (y.d : Int)) := by
                      have h := HT2.out
                      rw [HRE.out] at h
                      exact (PT.first (x := at2 (F ++ [q]) y.v) (d := y.d) (xs := qx F q rest) (ds := qd rest) h).2
                    have c2 : wv.cell? ⟨gd, j, none⟩ = some (.int .i64 (dv F q M j)) := by rw [HT2.out.D.cellAt j (by omega)]; exact dC_get hjt
                    have f2 := HT2.out.D.frozenAt j
                    have HT3 := hid (HT2.out.put j (.int .i64 ((y.d : Int) + 1)))
                    have HSZ := hid HT3.out.C.size
                    have HCV := hid (show ((dC F q M).set j (.int .i64 ((y.d : Int) + 1)))[j]? = some (.int .i64 ((y.d : Int) + 1)) from List.getElem?_set_self (by rw [dC_len]; exact hjt))
                    clear HT2
                    go_wp2_with (at_builtin; refine wpList_pushB rfl (.tmp 78) (.tmp 80) 31 rfl 35 Try.underlying31 info_PointC rfl (w.heap.size + 3) gq oq mj cq _ rfl (wv.setCell ⟨gd, j, none⟩ (.int .i64 ((y.d : Int) + 1))) HT3.out.Q (by repeat (first | exact Ext.refl _ | refine Ext.alloc ?_ _ | assumption | refine Ext.over ?_ _ | refine Ext.drew ?_ | refine Ext.drewN ?_ _)) HSZ.out _ 1 (.int .i64 (at2 F j).a) (.int .i64 (at2 F j).b) rfl (lit_cells _ _ (by first | (simp; done) | simp [ovr_size]) _ _) rfl rfl (by omega) (by decide) ?_)
                    intro g2 o2 c5 w3 hQ4 hgr hgg
                    have HQ4 := hid hQ4
                    have HG4 := hid hgr
                    have HN4 := hid (show g2 = gq ∨ (wv.setCell ⟨gd, j, none⟩ (.int .i64 ((y.d : Int) + 1))).heap.size ≤ g2 by rw [World.size_setCell]; exact hgg)
                    obtain ⟨⟨k1, k2⟩, ⟨k3, k4⟩, k5⟩ := HT3.out.pushQ (ys := qx F q (M.drop k) ++ [at2 F j]) (by rw [List.flatMap_append]; exact hQ4) hgr HN4.out
                    have HS4 := hid k4
                    have HZ4 := hid k1.size
                    have d2 : w3.cell? ⟨gd, j, none⟩ = some (.int .i64 ((y.d : Int) + 1)) := by rw [k3.cellAt j (by omega)]; exact HCV.out
                    clear hQ4 hgr hgg k1 k2 k3 k4 k5 c2 f2 z2 xb0 xb1
                    go_wp2_with (at_builtin; refine wpList_pushQ rfl (.tmp 82) (.tmp 87) 28 rfl 3 Try.underlying28 info_intP rfl (w.heap.size + 3) gl ol mj cl _ rfl w3 HS4.out (by repeat (first | exact Ext.refl _ | refine Ext.alloc ?_ _ | assumption | refine Ext.over ?_ _ | refine Ext.drew ?_ | refine Ext.drewN ?_ _)) HZ4.out _ 1 (.int .i64 ((y.d : Int) + 1)) rfl (lit_cells _ _ (by first | (simp; done) | simp [ovr_size]) _ _) rfl (by omega) (by decide) ?_)
                    intro g3 o3 c6 w4 hS5 hgr5 hgg5
                    have HT5 := hid (PT.push HT3.out HQ4.out HG4.out HN4.out (d := y.d + 1) (by rw [HCAST.out]; exact hS5) hgr5 hgg5)
                    clear hS5 hgr5 hgg5 HQ4 HG4 HN4 HS4 HZ4 d2 HT3
                    go_wp2_with fail
                    go_roundw
                    case rel => exact ⟨j + 1, g2, o2, c5, g3, o3, c6, by omega, by go_num, by rw [HM'.out, HLEN.out], by rw [HM'.out, HLEN.out], by rw [HM'.out, HLEN.out, HDC.out, HQX.out, HQD.out]; exact HT5.out.ext (by repeat (first | exact Ext.refl _ | refine Ext.alloc ?_ _ | assumption | refine Ext.over ?_ _ | refine Ext.drew ?_ | refine Ext.drewN ?_ _))⟩
                    case measure => simp [intOf]; omega
              · obtain rfl : j = F.length := by omega
                have hMB : bG L F q (k + 1) = M := by rw [HMM.out, HPRE.out]
                have hdr : M.drop (k + 1) = rest := by
                  have : M.drop (k + 1) = (M.drop k).tail := by rw [List.tail_drop]
                  rw [this, HRE.out]; rfl
                have hcq := hT.Q.cap
                have hcl := hT.S.cap
                have HRN := hid (show ∀ Bq Bl wz, (Bq = some ⟨gq, oq + 2, none⟩ ∨ cq = 1 ∧ Bq = some ⟨gq, oq, none⟩) → (Bl = some ⟨gl, ol + 1, none⟩ ∨ cl = 1 ∧ Bl = some ⟨gl, ol, none⟩) → Ext wr wz → RndP A c L p q w F gn on_ cn gd (k + 1) (.slice Bq (mj - 1) (cq - 1)) (.slice Bl (mj - 1) (cl - 1)) wz from fun Bq Bl wz h1 h2 e => by
                  have h3 := HT.out
                  have h4 : mj = (mj - 1) + 1 := by omega
                  rw [h4, HRE.out] at h3
                  obtain ⟨o1, o2, rfl, rfl, h5⟩ := PT.tail (x := at2 (F ++ [q]) y.v) (d := y.d) (xs := qx F q rest) (ds := qd rest) h3 h1 h2
                  have h6 : M.length - (k + 1) = mj - 1 := by rw [HMJ.out]; omega
                  exact ⟨gq, o1, cq - 1, gl, o2, cl - 1, by rw [hMB]; omega, by rw [hMB, h6], by rw [hMB, h6], by rw [hMB, h6, hdr]; exact h5.ext e⟩)
                have HLE := hid (show ∀ qv lv wz, RndP A c L p q w F gn on_ cn gd (k + 1) qv lv wz → (least fun m => ∃ k, k ≤ F.length + 1 ∧ RndP A c L p q w F gn on_ cn gd k qv lv wz ∧ m = F.length + 1 - k) < F.length + 1 - k from fun qv lv wz hv => by
                  have := (least_spec (p := fun m => ∃ k, k ≤ F.length + 1 ∧ RndP A c L p q w F gn on_ cn gd k qv lv wz ∧ m = F.length + 1 - k) ⟨_, k + 1, by omega, hv, rfl⟩).2 _ ⟨k + 1, by omega, hv, rfl⟩
                  omega)
                have h1t : (1 : Int) ≤ mj := by omega
                clear hT hnst hns hMB hdr hMk hMl z0 z1 z2 r0 HADJ
                by_cases hc1 : cq = 1
                · by_cases hc2 : cl = 1
                  · obtain rfl : mj = 1 := by omega
                    subst hc1 hc2
                    have HR1 := hid (fun wz e => HRN.out (some ⟨gq, oq, none⟩) (some ⟨gl, ol, none⟩) wz (.inr ⟨rfl, rfl⟩) (.inr ⟨rfl, rfl⟩) e)
                    clear HRN
                    go_wp2_with fail
                    (refine wp_region_calm (by kernel_rfl) (by kernel_rfl) ?_; (repeat (go_big_quiet_step (fail))); refine wpQuiet_nil ?_; rintro w1 ⟨x1, rfl⟩)
                    have HR2 := hid (HR1.out (ovr wr x1) (Ext.over (Ext.refl _) _))
                    have HL2 := hid (HLE.out _ _ _ HR2.out)
                    have hm2 := HM2.out
                    rw [← HM2.out] at HL2
                    clear hm2
                    go_wp2_with fail
                    go_roundw
                    case rel => exact ⟨k + 1, HR2.out⟩
                    case measure => exact HL2.out
                  · obtain rfl : mj = 1 := by omega
                    subst hc1
                    have HR1 := hid (fun wz e => HRN.out (some ⟨gq, oq, none⟩) (some ⟨gl, ol + 1, none⟩) wz (.inr ⟨rfl, rfl⟩) (.inl rfl) e)
                    clear HRN
                    go_wp2_with fail
                    (refine wp_region_calm (by kernel_rfl) (by kernel_rfl) ?_; (repeat (go_big_quiet_step (fail))); refine wpQuiet_nil ?_; rintro w1 ⟨x1, rfl⟩)
                    have HR2 := hid (HR1.out (ovr wr x1) (Ext.over (Ext.refl _) _))
                    have HL2 := hid (HLE.out _ _ _ HR2.out)
                    have hm2 := HM2.out
                    rw [← HM2.out] at HL2
                    clear hm2
                    go_wp2_with fail
                    go_roundw
                    case rel => exact ⟨k + 1, HR2.out⟩
                    case measure => exact HL2.out
                · by_cases hc2 : cl = 1
                  · obtain rfl : mj = 1 := by omega
                    subst hc2
                    have HR1 := hid (fun wz e => HRN.out (some ⟨gq, oq + 2, none⟩) (some ⟨gl, ol, none⟩) wz (.inl rfl) (.inr ⟨rfl, rfl⟩) e)
                    clear HRN
                    go_wp2_with fail
                    (refine wp_region_calm (by kernel_rfl) (by kernel_rfl) ?_; (repeat (go_big_quiet_step (fail))); refine wpQuiet_nil ?_; rintro w1 ⟨x1, rfl⟩)
                    have HR2 := hid (HR1.out (ovr wr x1) (Ext.over (Ext.refl _) _))
                    have HL2 := hid (HLE.out _ _ _ HR2.out)
                    have hm2 := HM2.out
                    rw [← HM2.out] at HL2
                    clear hm2
                    go_wp2_with fail
                    go_roundw
                    case rel => exact ⟨k + 1, HR2.out⟩
                    case measure => exact HL2.out
                  ·
                    have HR1 := hid (fun wz e => HRN.out (some ⟨gq, oq + 2, none⟩) (some ⟨gl, ol + 1, none⟩) wz (.inl rfl) (.inl rfl) e)
                    clear HRN
                    go_wp2_with fail
                    (refine wp_region_calm (by kernel_rfl) (by kernel_rfl) ?_; (repeat (go_big_quiet_step (fail))); refine wpQuiet_nil ?_; rintro w1 ⟨x1, rfl⟩)
                    have HR2 := hid (HR1.out (ovr wr x1) (Ext.over (Ext.refl _) _))
                    have HL2 := hid (HLE.out _ _ _ HR2.out)
                    have hm2 := HM2.out
                    rw [← HM2.out] at HL2
                    clear hm2
                    go_wp2_with fail
                    go_roundw
                    case rel => exact ⟨k + 1, HR2.out⟩
                    case measure => exact HL2.out
          · have hmq0 : mq = 0 := by omega
            have hend := HEND.out (by omega)
            have hdn : wo.cell? ⟨gd, L.length, none⟩ = some (.int .i64 (distF L F q L.length)) := by
              have := HM.out
              rw [hT.D.cellAt L.length (by omega), hend, List.getElem?_map, List.getElem?_range (by omega)]
              rfl
            have hlf : L.length ≤ F.length := by have := HM.out; omega
            have hlt2 : (L.length : Int) < F.length := by have := HM.out; omega
            have r0 := hT.C.rb
            have HT9 := hid hT
            have HEN := hid hend
            have HTK := hid (show ((List.range F.length).map fun v => Value.int .i64 (distF L F q v)).take L.length = (List.range L.length).map fun v => Value.int .i64 (distF L F q v) by
              rw [← List.map_take, List.take_range, Nat.min_eq_left hlf])
            clear hT hend hmq hnext HI HDL HEND HM2
            subst hmq0
            go_wp2_with fail
            (refine wp_region_calm (by kernel_rfl) (by kernel_rfl) ?_; (repeat (go_big_quiet_step (fail))); refine wpQuiet_nil ?_; rintro w1 ⟨x1, rfl⟩)
            go_wp2_with fail
            go_ret2
            refine ⟨gd, F.length, ?_, ?_, HT9.out.C.E.trans (Ext.over (Ext.refl _) _)⟩
            · rw [← HF.out]; rfl
            · rw [← HF.out, ← HTK.out, ← HEN.out]
              exact own_base (own_ext (own_part HT9.out.D hlf) (Ext.over (Ext.refl _) _)) (by omega)
end Go.Proofs.Ytkifapcegiajiaa
