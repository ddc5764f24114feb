/- Walks: AreLinked of the program. Conditions: sizes. -/
import Derived.Test.YtngniniiohgilaaShortL
import Derived.Test.YtngniniiohgilaaDelete
import Derived.Test.YtngniniiohgilaaHallsI
import Derived.Test.YtngniniiohgilaaClone
import Derived.Test.YtngniniiohgilaaHer4
namespace Go.Proofs.Ytngniniiohgilaa
open Go.RowKit
set_option linter.unusedVariables false

def adjL (l : List T2) (hs : List Int) (i q : Nat) : Bool := hasD l q i && memI hs i
theorem links_kept (l : List T2) (hs : List Int) (q h : Nat) : ((links l q h).filter fun x => !(!memI hs x)) = idxs (fun i => adjL l hs i q) h := by
  unfold links idxs adjL
  rw [List.filter_map]
  congr 1
  rw [List.filter_filter]
  apply List.filter_congr
  intro i _
  simp only [Function.comp, Bool.not_not]
  rw [Bool.and_comm]
theorem links1_any (h : Nat) (A : Option Addr) (n c : Nat) (l : List T2) (B : Option Addr) (m d : Nat) (hs : List Int) (q gb ge : Nat) (w : World) (hb0 : w.cell? ⟨gb, 0, none⟩ = some (.int .i64 ↑h)) (hb1 : w.cell? ⟨gb, 1, none⟩ = some (.slice A n c)) (hb2 : w.cell? ⟨ge, 0, none⟩ = some (.slice B m d))
    (hl : Row w A (l.flatMap T2.v)) (hn : l.length = n) (hx : n ≤ 12) (h7 : h ≤ 7) (hf : doorsOk h l = true) (hr : Row w B (hs.map (Value.int .i64))) (hm : hs.length = m) (hy : m ≤ 1048577) :
    Calls Try.prog 46 #[.int .i64 q, .pointer (some ⟨gb, 0, none⟩), .pointer (some ⟨ge, 0, none⟩)] w fun en w' => ∃ A' m' c', en = .returned (.slice A' m' c') ∧ w'.ownsRow w.heap.size 3 1 (.slice A' m' c') m' ((idxs (fun i => adjL l hs i q) h).map (Value.int .i64)) ∧ Ext w w' := by
  have HD := hid hf
  have HK := hid (clL_at B m d ge w hr hm hy hb2)
  clear hf
  go_enter Try.func46, Try.ntmps46
  go_wp2_with fail
  refine (linksOf_any h A n c l q _ hl hn hx h7 HD.out).mono ?_
  rintro _ w1 ⟨A', m', c', rfl, ho, he⟩
  have HO := hid ho
  have HE := hid he
  have hml : m' ≤ 100 := by
    have h1 := own_len ho
    have h2 := links_len l q h
    omega
  clear ho he
  go_wp2_with fail
  refine (DeleteL_any w A' m' c' (links l q h) ge (fun x => !memI hs x) w1 HO.out hml HE.out HK.out).mono ?_
  rintro _ w2 ⟨A2, m2, c2, rfl, ho2, he2⟩
  rw [links_kept] at ho2
  have HO2 := hid ho2
  have HE2 := hid he2
  clear ho2 he2
  go_wp2_with fail
  go_ret
  exact ⟨_, _, _, rfl, HO2.out, HE2.out⟩
def near0 (h : Nat) (l : List T2) (hs : List Int) (i : Nat) : Bool := decide (0 ≤ dist h (adjL l hs) (atI hs 0).toNat (atI hs i).toNat)
def linked (h : Int) (l : List T2) (hs : List Int) : Bool := halls h l hs && allN hs.length (near0 h.toNat l hs)
theorem linked_no {h : Int} {l : List T2} {hs : List Int} (g : halls h l hs = false) : linked h l hs = false := by unfold linked; rw [g]; rfl
theorem linked_far {h : Nat} {l : List T2} {hs : List Int} {i : Nat} (hi : i < hs.length) (g : near0 h l hs i = false) : linked h l hs = false := by unfold linked; rw [Int.toNat_natCast, allN_false hi g]; simp
theorem linked_yes {h : Nat} {l : List T2} {hs : List Int} (g : halls h l hs = true) (g' : ∀ i, i < hs.length → near0 h l hs i = true) : linked h l hs = true := by unfold linked; rw [Int.toNat_natCast, allN_true g', g]; rfl
set_option maxRecDepth 100000 in
set_option maxHeartbeats 3200000 in
theorem iLinked_any (h : Int) (A : Option Addr) (n c : Nat) (l : List T2) (B : Option Addr) (m d : Nat) (hs : List Int) (w : World) (hl : Row w A (l.flatMap T2.v)) (hn : l.length = n) (hx : n ≤ 1048577) (hr : Row w B (hs.map (Value.int .i64))) (hm : hs.length = m) (hy : m ≤ 1048577) :
    Gives Try.prog 14 #[.agg #[.int .i64 h, .slice A n c], .slice B m d] w (.bool (linked h l hs)) := by
  subst hn hm
  cases hk : houseOk h l
  · have HB := hid (linked_no (halls_no (g := hs) hk))
    (unfold Gives; go_enter Try.func14, Try.ntmps14)
    go_wp2_with (go_at_call 15; refine (gives_b hk (iHouseOk_any _ _ _ _ l _ (hl.ext (by repeat (first | exact Ext.refl _ | refine Ext.alloc ?_ _ | assumption | refine Ext.over ?_ _ | refine Ext.drew ?_ | refine Ext.drewN ?_ _))) rfl hx)).over.mono ?_; rintro e w' ⟨rfl, xw, rfl⟩)
    go_ret
    exact ⟨by rw [HB.out]; rfl, by repeat (first | exact Ext.refl _ | refine Ext.alloc ?_ _ | assumption | refine Ext.over ?_ _ | refine Ext.drew ?_ | refine Ext.drewN ?_ _)⟩
  obtain ⟨hd, h1, h7, h12⟩ := houseOk_bounds hk
  have HD := hid hd
  have HK := hid hk
  have hnil := eqNilS'
  have hsome := eqSomeS'
  clear hd hk
  (unfold Gives; go_enter Try.func14, Try.ntmps14)
  go_wp2_with (go_at_call 15; refine (gives_b HK.out (iHouseOk_any _ _ _ _ l _ (hl.ext (by repeat (first | exact Ext.refl _ | refine Ext.alloc ?_ _ | assumption | refine Ext.over ?_ _ | refine Ext.drew ?_ | refine Ext.drewN ?_ _))) rfl hx)).over.mono ?_; rintro e w' ⟨rfl, xw, rfl⟩)
  go_loopw [15] (fun i wr => ∃ (k : Nat), (∀ j, j < k → inH h hs j = true) ∧ k ≤ hs.length ∧ i = .int .i64 ↑k ∧ Ext w wr ∧ wr.cell? ⟨w.heap.size, 0, none⟩ = some (.int .i64 h) ∧ wr.cell? ⟨w.heap.size, 1, none⟩ = some (.slice A l.length c) ∧ wr.cell? ⟨w.heap.size + 1, 0, none⟩ = some (.slice B hs.length d)) (fun i _ => (hs.length - (intOf i).toNat))
  case atStart => exact ⟨0, by omega, by omega, rfl, by repeat (first | exact Ext.refl _ | refine Ext.alloc ?_ _ | assumption | refine Ext.over ?_ _ | refine Ext.drew ?_ | refine Ext.drewN ?_ _), by go_simp, by go_simp, by go_simp⟩
  case round =>
    obtain ⟨k, hk', hkn, rfl, he, b0, b1, b2⟩ := hrel
    have HJ := hid hk'
    have HE := hid he
    have HL := hid (hl.ext he)
    have hO := hr.ext he
    have HR := hid hO
    clear hk'
    by_cases hlt : k < hs.length
    · obtain ⟨ob, off, rfl, hc⟩ := hO.ints hlt
      have c1 := hc k hlt
      clear hc he hr hl hO HR
      cases g1 : btw (atI hs k) 0 (h - 1)
      · have HB := hid (linked_no (halls_out (l := l) hlt g1))
        go_wp2_with (go_at_call 42; refine (gives_b g1 (isHall_any _ _ _ _ _ _ h1 h7)).over.mono ?_; rintro e w' ⟨rfl, xw, rfl⟩)
        go_ret
        exact ⟨by rw [HB.out]; rfl, HE.out.trans (by repeat (first | exact Ext.refl _ | refine Ext.alloc ?_ _ | assumption | refine Ext.over ?_ _ | refine Ext.drew ?_ | refine Ext.drewN ?_ _))⟩
      · have HB := hid g1
        go_wp2_with (go_at_call 42; refine (gives_b g1 (isHall_any _ _ _ _ _ _ h1 h7)).over.mono ?_; rintro e w' ⟨rfl, xw, rfl⟩)
        go_roundw
        case rel => exact ⟨k + 1, lt_succ_all HJ.out HB.out, by omega, by go_num, HE.out.trans (by repeat (first | exact Ext.refl _ | refine Ext.alloc ?_ _ | assumption | refine Ext.over ?_ _ | refine Ext.drew ?_ | refine Ext.drewN ?_ _)), by go_simp, by go_simp, by go_simp⟩
        case measure => simp [intOf]; omega
    · have HH := hid (show halls h l hs = true by unfold halls; rw [HK.out, allN_true (fun j hj => HJ.out j (by omega))]; rfl)
      obtain ⟨h, rfl⟩ : ∃ k : Nat, h = k := ⟨h.toNat, by omega⟩
      have HIN := hid (show ∀ j, j < hs.length → 0 ≤ atI hs j ∧ atI hs j < h from fun j hj => by
        have := (halls_iff.1 HH.out).2 j hj
        omega)
      clear he hr hl hO
      rename World => wo
      go_wp2_with fail
      go_loopw [27] (fun iv wr => ∃ k : Nat, k ≤ hs.length ∧ (∀ j, j < k → near0 h l hs j = true) ∧ iv = .int .i64 ↑k ∧ Ext wo wr) (fun iv _ => hs.length - (intOf iv).toNat)
      case atStart => exact ⟨0, by omega, by omega, rfl, Ext.refl _⟩
      case round =>
        obtain ⟨k, hk, hnr, rfl, he⟩ := hrel
        have HN := hid hnr
        have HE2 := hid he
        have HEW := hid (HE.out.trans he)
        have HLW := hid (HL.out.ext he)
        have HRW := hid (HR.out.ext he)
        have hO := HRW.out
        have p0 := old_cell he b0
        have p1 := old_cell he b1
        have p2 := old_cell he b2
        clear he hnr
        by_cases hlt : k < hs.length
        · obtain ⟨ob, off, rfl, hc⟩ := hO.ints hlt
          have c1 := hc k hlt
          have c0 := hc 0 (by omega)
          have i0 := HIN.out 0 (by omega)
          have i1 := HIN.out k hlt
          obtain ⟨x, hx1⟩ : ∃ x : Nat, x = (atI hs 0).toNat := ⟨_, rfl⟩
          obtain ⟨y, hy1⟩ : ∃ y : Nat, y = (atI hs k).toNat := ⟨_, rfl⟩
          rw [show atI hs 0 = (x : Int) by omega, Nat.add_zero] at c0
          rw [show atI hs k = (y : Int) by omega] at c1
          have hxh : x < h := by omega
          have hyh : y < h := by omega
          have HXY := hid (show near0 h l hs k = decide (0 ≤ dist h (adjL l hs) x y) by unfold near0; rw [← hx1, ← hy1])
          have hpos : 0 < hs.length := by omega
          clear hc hO hx1 hy1 i0 i1 b0 b1 b2
          go_wp2_with fail
          refine wp_region_x [.q 0, .q 1, .q 2, .q 3, .q 4, .q 5, .q 6, .u 7, .u 8] (by kernel_rfl) (by kernel_rfl) (fun w1 e1 => ?_)
          have p0 := old_cell e1 p0
          have p1 := old_cell e1 p1
          have p2 := old_cell e1 p2
          have c0 := old_cell e1 c0
          have E1 := hid e1
          have hs1 := shortestL_any h x y (adjL l hs) w.heap.size (w.heap.size + 1) w1 hxh hyh (by omega) (fun q hq w' he' =>
            links1_any h A l.length c l _ hs.length d hs q w.heap.size (w.heap.size + 1) w' (old_cell he' p0) (old_cell he' p1) (old_cell he' p2) ((HLW.out.ext E1.out).ext he') rfl h12 (by omega) HD.out ((HRW.out.ext E1.out).ext he') rfl hy)
          have HS1 := hid hs1
          clear e1 hs1
          simp only [pick, List.getElem?_cons_succ, List.getElem?_cons_zero]
          repeat (refine wpZ_q (fun K hK => ?_); go_simp; refine hK _ ?_; clear hK K)
          refine wpZ_u ?_
          refine stepH_of (fun K hK => ?_)
          go_simp
          refine HS1.out.mono ?_
          rintro en w2 ⟨he2, ⟨hneg, rfl⟩ | ⟨hpos', A', c', rfl, ho⟩⟩
          · have HB := hid (linked_far hlt (show near0 h l hs k = false by rw [HXY.out]; exact decide_eq_false (by omega)))
            refine ⟨_, rfl, hK _ _ he2 ?_⟩; clear hK K
            have HE3 := hid (HEW.out.trans (E1.out.trans he2))
            clear he2 hneg
            ((first | refine wpZ_u ?_ | skip); refine stepH_of (fun K hK => ?_); go_simp; refine hK _ _ (Below.refl _ _) ?_; clear hK K)
            refine wpZ_nil ?_
            go_wp2_with fail
            go_ret
            exact ⟨by rw [HB.out]; rfl, HE3.out⟩
          · have HB := hid (show near0 h l hs k = true by rw [HXY.out]; exact decide_eq_true hpos')
            obtain ⟨gA, hA⟩ := own_addr ho (by omega)
            subst hA
            refine ⟨_, rfl, hK _ _ he2 ?_⟩; clear hK K
            have HE3 := hid (HE2.out.trans (E1.out.trans he2))
            clear he2 hpos' ho
            ((first | refine wpZ_u ?_ | skip); refine stepH_of (fun K hK => ?_); go_simp; refine hK _ _ (Below.refl _ _) ?_; clear hK K)
            refine wpZ_nil ?_
            go_wp2_with fail
            go_roundw
            case rel => exact ⟨k + 1, by omega, lt_succ_all HN.out HB.out, by go_num, HE3.out⟩
            case measure => simp [intOf]; omega
        · have HB := hid (linked_yes HH.out (fun j hj => HN.out j (by omega)))
          go_wp2_with fail
          go_ret
          exact ⟨by rw [HB.out]; rfl, HEW.out⟩
end Go.Proofs.Ytngniniiohgilaa
