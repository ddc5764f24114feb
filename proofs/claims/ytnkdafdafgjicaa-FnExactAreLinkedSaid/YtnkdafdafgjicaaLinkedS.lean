/- Walks: AreLinked of the reference. Conditions: sizes. -/
import Derived.Test.YtnkdafdafgjicaaLinkedI
import Derived.Test.YtnkdafdafgjicaaBestP
import Derived.Test.YtnkdafdafgjicaaIntsS
namespace Go.Proofs.Ytnkdafdafgjicaa
open Go.RowKit
set_option linter.unusedVariables false

/-- The number of a list at an index. -/
def hN (hs : List Int) (i : Nat) : Nat := (atI hs i).toNat
/-- The halls that have been reached; the first k have been looked at, and the k-th for the first i of the list. -/
structure Rch (l : List T2) (h : Nat) (hs : List Int) (L : List Nat) (k i : Nat) : Prop where
  beg : Beg h L
  head : hN hs 0 ∈ L
  way : ∀ x ∈ L, 0 ≤ dist h (adjL l hs) (hN hs 0) x
  done : ∀ j, j < k → j < L.length → ∀ p, p < hs.length → hasD l (hN hs p) (natAt L j) = true → hN hs p ∈ L
  part : ∀ p, p < i → p < hs.length → hasD l (hN hs p) (natAt L k) = true → hN hs p ∈ L
theorem natAt_left {L M : List Nat} {j : Nat} (h : j < L.length) : natAt (L ++ M) j = natAt L j := by rw [natAt_eq _ _ (by simp; omega), natAt_eq _ _ h, List.getElem_append_left h]
theorem Rch.skip {l : List T2} {h : Nat} {hs : List Int} {L : List Nat} {k i : Nat} (r : Rch l h hs L k i) (hc : hasD l (hN hs i) (natAt L k) = true → hN hs i ∈ L) : Rch l h hs L k (i + 1) :=
  ⟨r.beg, r.head, r.way, r.done, fun p hp hl hd => by
    rcases Nat.lt_or_ge p i with h1 | h1
    · exact r.part p h1 hl hd
    · obtain rfl : p = i := by omega
      exact hc hd⟩
theorem Rch.push {l : List T2} {h : Nat} {hs : List Int} {L : List Nat} {k i : Nat} (r : Rch l h hs L k i) (ha : hN hs 0 < h) (hk : k < L.length) (hi : i < hs.length) (hin : ∀ j, j < hs.length → 0 ≤ atI hs j) (hh : hN hs i < h) (hd : hasD l (hN hs i) (natAt L k) = true) (hn : L.contains (hN hs i) = false) : Rch l h hs (L ++ [hN hs i]) k (i + 1) := by
  have hku : natAt L k ∈ L := natAt_mem hk
  have hadj : adjL l hs (hN hs i) (natAt L k) = true := by
    unfold adjL
    rw [hasD_symm, hd, Bool.true_and, memI_iff]
    have h0 := hin i hi
    have : ((hN hs i : Nat) : Int) = atI hs i := by unfold hN; omega
    rw [this, atI_eq _ _ hi]
    exact List.getElem_mem hi
  refine ⟨r.beg.snoc hh hn, by simp [r.head], fun x hx => ?_, fun j hj hjl p hp hdp => ?_, fun p hp hl hdp => ?_⟩
  · rcases List.mem_append.1 hx with h1 | h1
    · exact r.way x h1
    · rw [List.mem_singleton] at h1
      subst h1
      have hw := dist_way ha (r.way _ hku)
      exact (dist_le ha (Way.snoc hw hh hadj)).1
  · have hjL : j < L.length := by omega
    rw [natAt_left hjL] at hdp
    exact List.mem_append.2 (.inl (r.done j hj hjL p hp hdp))
  · rw [natAt_left hk] at hdp
    rcases Nat.lt_or_ge p i with h1 | h1
    · exact List.mem_append.2 (.inl (r.part p h1 hl hdp))
    · obtain rfl : p = i := by omega
      simp
theorem Rch.next {l : List T2} {h : Nat} {hs : List Int} {L : List Nat} {k i : Nat} (r : Rch l h hs L k i) (hi : hs.length ≤ i) : Rch l h hs L (k + 1) 0 :=
  ⟨r.beg, r.head, r.way, fun j hj hjl p hp hd => by
    rcases Nat.lt_or_ge j k with h1 | h1
    · exact r.done j h1 hjl p hp hd
    · obtain rfl : j = k := by omega
      exact r.part p (by omega) hp hd, fun p hp _ _ => by omega⟩
theorem Rch.all {l : List T2} {h : Nat} {hs : List Int} {L : List Nat} {k i : Nat} (r : Rch l h hs L k i) (hk : L.length ≤ k) (ha : hN hs 0 < h) (p : Nat) (hp : p < hs.length) : near0 h l hs p = L.contains (hN hs p) := by
  rw [Bool.eq_iff_iff, List.contains_iff_mem]
  unfold near0
  rw [decide_eq_true_eq]
  constructor
  · intro hd
    have hw := dist_way ha hd
    have key : ∀ m v, Way h (adjL l hs) (hN hs 0) m v → v ∈ L := by
      intro m v hw
      induction hw with
      | nil => exact r.head
      | @snoc m u v h1 h2 h3 ih =>
        unfold adjL at h3
        rw [Bool.and_eq_true, memI_iff] at h3
        obtain ⟨i, hi, he⟩ := List.getElem_of_mem h3.2
        obtain ⟨j, hj, hju⟩ := List.getElem_of_mem ih
        have hv : hN hs i = v := by unfold hN; rw [atI_eq _ _ hi, he]; rfl
        have := r.done j (by omega) hj i hi (by rw [hv, natAt_eq _ _ hj, hju, hasD_symm]; exact h3.1)
        rw [hv] at this
        exact this
    exact key _ _ hw
  · intro hm
    exact r.way _ hm
set_option maxRecDepth 100000 in
set_option maxHeartbeats 6400000 in
theorem sLinked_any (h : Int) (A : Option Addr) (n c : Nat) (l : List T2) (B : Option Addr) (m d : Nat) (hs : List Int) (w : World) (hl : Row w A (l.flatMap T2.v)) (hn : l.length = n) (hx : n ≤ 1048577) (hr : Row w B (hs.map (Value.int .i64))) (hm : hs.length = m) (hy : m ≤ 1048577) :
    Gives Try.prog 16 #[.agg #[.int .i64 h, .slice A n c], .slice B m d] w (.bool (linked h l hs)) := by
  subst hn hm
  (unfold Gives; go_enter Try.func16, Try.ntmps16)
  go_wp2_with fail
  go_loopw [5] (fun i wr => ∃ (k : Nat), (∀ j, j < k → hasHall h l (atI hs j) = true) ∧ k ≤ hs.length ∧ i = .int .i64 ↑k ∧ Ext w wr ∧ wr.cell? ⟨w.heap.size, 0, none⟩ = some (.int .i64 h) ∧ wr.cell? ⟨w.heap.size, 1, none⟩ = some (.slice A l.length c)) (fun i _ => (hs.length - (intOf i).toNat))
  case atStart => exact ⟨0, by omega, by omega, rfl, by repeat (first | exact Ext.refl _ | refine Ext.alloc ?_ _ | assumption | refine Ext.over ?_ _ | refine Ext.drew ?_ | refine Ext.drewN ?_ _), by go_simp, by go_simp⟩
  case round =>
    obtain ⟨k, hk', hkn, rfl, he, b0, b1⟩ := hrel
    have HJ := hid hk'
    have HE := hid he
    have HL := hid (hl.ext he)
    have hO := hr.ext he
    have HR := hid hO
    clear hk'
    by_cases hlt : k < hs.length
    · obtain ⟨ob, off, rfl, hc⟩ := hO.ints hlt
      have c1 := hc k hlt
      clear hc he hr hl hO HR
      cases g1 : hasHall h l (atI hs k)
      · have HB := hid (show linked h l hs = false by
          refine linked_no ?_
          cases hk : houseOk h l
          · exact halls_no hk
          · exact halls_out hlt (by unfold inH; unfold hasHall at g1; rw [hk] at g1; exact g1))
        go_wp2_with fail
        (refine wp_region_calm (by kernel_rfl) (by kernel_rfl) ?_; (repeat (go_big_quiet_step ((go_at_call 31; exact (gives_b g1 (l23Has_any _ _ _ _ l _ _ (HL.out.ext (by repeat (first | exact Ext.refl _ | refine Ext.alloc ?_ _ | assumption | refine Ext.over ?_ _ | refine Ext.drew ?_ | refine Ext.drewN ?_ _))) rfl hx)).calm)))); refine wpQuiet_nil ?_; rintro w1 ⟨x1, rfl⟩)
        go_wp2_with fail
        go_ret
        exact ⟨by rw [HB.out]; rfl, HE.out.trans (by repeat (first | exact Ext.refl _ | refine Ext.alloc ?_ _ | assumption | refine Ext.over ?_ _ | refine Ext.drew ?_ | refine Ext.drewN ?_ _))⟩
      · have HB := hid g1
        go_wp2_with fail
        (refine wp_region_calm (by kernel_rfl) (by kernel_rfl) ?_; (repeat (go_big_quiet_step ((go_at_call 31; exact (gives_b g1 (l23Has_any _ _ _ _ l _ _ (HL.out.ext (by repeat (first | exact Ext.refl _ | refine Ext.alloc ?_ _ | assumption | refine Ext.over ?_ _ | refine Ext.drew ?_ | refine Ext.drewN ?_ _))) rfl hx)).calm)))); refine wpQuiet_nil ?_; rintro w1 ⟨x1, rfl⟩)
        go_wp2_with fail
        go_roundw
        case rel => exact ⟨k + 1, lt_succ_all HJ.out HB.out, by omega, by go_num, HE.out.trans (by repeat (first | exact Ext.refl _ | refine Ext.alloc ?_ _ | assumption | refine Ext.over ?_ _ | refine Ext.drew ?_ | refine Ext.drewN ?_ _)), by go_simp, by go_simp⟩
        case measure => simp [intOf]; omega
    · rcases Nat.eq_zero_or_pos hs.length with h0 | h0
      · have HB := hid (show linked h l hs = houseOk h l by
          unfold linked halls
          rw [h0]
          show (houseOk h l && true && true) = _
          simp)
        have hlz : ((hs.length : Int) == 0) = true := by rw [h0]; rfl
        clear hkn he hr hl hO
        cases hk : houseOk h l
        all_goals
          go_wp2_with (go_at_call 38; refine (gives_b hk (sHouseOk_any _ _ _ _ l _ (HL.out.ext (by repeat (first | exact Ext.refl _ | refine Ext.alloc ?_ _ | assumption | refine Ext.over ?_ _ | refine Ext.drew ?_ | refine Ext.drewN ?_ _))) rfl hx)).over.mono ?_; rintro e w' ⟨rfl, xw, rfl⟩)
          go_ret
          exact ⟨by rw [HB.out, hk]; rfl, HE.out.trans (by repeat (first | exact Ext.refl _ | refine Ext.alloc ?_ _ | assumption | refine Ext.over ?_ _ | refine Ext.drew ?_ | refine Ext.drewN ?_ _))⟩
      have hlz : ((hs.length : Int) == 0) = false := by rw [beq_eq_false_iff_ne]; omega
      have hk := (hasHall_iff.1 (HJ.out 0 (by omega))).1
      obtain ⟨_, h1, h7, h12⟩ := houseOk_bounds hk
      have HK := hid hk
      have HIN := hid (show ∀ j, j < hs.length → 0 ≤ atI hs j ∧ atI hs j ≤ h - 1 from fun j hj => (hasHall_iff.1 (HJ.out j (by omega))).2)
      have HH := hid (halls_iff.2 ⟨hk, HIN.out⟩)
      obtain ⟨h, rfl⟩ : ∃ k : Nat, h = k := ⟨h.toNat, by omega⟩
      have HIH := hid (show ∀ j, j < hs.length → ((hN hs j : Nat) : Int) = atI hs j ∧ hN hs j < h from fun j hj => by
        have := HIN.out j hj
        unfold hN
        omega)
      have ha := (HIH.out 0 h0).2
      obtain ⟨ob, off, rfl, hc⟩ := hO.ints h0
      have c0 := hc 0 h0
      rw [Nat.add_zero, ← (HIH.out 0 h0).1] at c0
      obtain ⟨a, haN⟩ : ∃ a, a = hN hs 0 := ⟨_, rfl⟩
      rw [← haN] at c0 ha
      have HA := hid haN
      clear hc he hr hl hO hk haN
      rename World => wo
      have hrt : (hs.length : Int) > 0 := by omega
      go_wp2_with (go_at_call 38; refine (gives_b HK.out (sHouseOk_any _ _ _ _ l _ (HL.out.ext (by repeat (first | exact Ext.refl _ | refine Ext.alloc ?_ _ | assumption | refine Ext.over ?_ _ | refine Ext.drew ?_ | refine Ext.drewN ?_ _))) rfl hx)).over.mono ?_; rintro e w' ⟨rfl, xw, rfl⟩)
      rename World => xv
      obtain ⟨wb, hwb⟩ : ∃ wb, wb = ovr wo xv := ⟨_, rfl⟩
      have heb : Ext wo wb := by rw [hwb]; repeat (first | exact Ext.refl _ | refine Ext.alloc ?_ _ | assumption | refine Ext.over ?_ _ | refine Ext.drew ?_ | refine Ext.drewN ?_ _)
      have p0 := old_cell heb b0
      have p1 := old_cell heb b1
      have HEB := hid (HE.out.trans heb)
      have HLB := hid (HL.out.ext heb)
      have HRB := hid (HR.out.ext heb)
      have HO0 := hid (World.ownsRow_lit (base := wb.heap.size) (e := 3) (size := 1) wb #[.int .i64 ↑a] 1 (Nat.le_refl _) (by decide) rfl)
      clear b0 b1 c0 hkn HL HR HE
      rw [← hwb]
      go_loopw [6, 7] (fun rv kv wr => ∃ (L : List Nat) (k : Nat) (A' : Option Addr) (c' : Nat), k ≤ L.length ∧ kv = .int .i64 ↑k ∧ rv = .slice A' L.length c' ∧ wr.ownsRow wb.heap.size 3 1 (.slice A' L.length c') L.length ((ci L).map (Value.int .i64)) ∧ Rch l h hs L k 0 ∧ Ext wb wr) (fun _ kv _ => h - (intOf kv).toNat)
      case atStart =>
        refine ⟨[a], 0, _, _, by simp, rfl, rfl, by rw [hwb]; rw [hwb] at HO0; simpa [ci, ovr_size] using HO0.out, ?_, by rw [hwb]; repeat (first | exact Ext.refl _ | refine Ext.alloc ?_ _ | assumption | refine Ext.over ?_ _ | refine Ext.drew ?_ | refine Ext.drewN ?_ _)⟩
        refine ⟨⟨by simp, by simpa using ha⟩, by rw [← HA.out]; simp, fun x hx => ?_, by omega, by omega⟩
        rw [List.mem_singleton] at hx
        subst hx
        rw [← HA.out, dist_self ha]
        exact Int.le_refl _
      case round =>
        clear hwb
        obtain ⟨L, k1, A', c', hk1, rfl, rfl, hown, hrch, he⟩ := hrel
        rename World => wi
        have HOW := hid hown
        have HRC := hid hrch
        have HEW := hid he
        clear hown hrch he
        by_cases hkl : k1 < L.length
        · have hkh : k1 < h := by have := nodup_len HRC.out.beg.1 HRC.out.beg.2; omega
          go_wp2_with fail
          go_loopw [6, 8] (fun rv iv wr => ∃ (L : List Nat) (i : Nat) (A' : Option Addr) (c' : Nat), i ≤ hs.length ∧ k1 < L.length ∧ iv = .int .i64 ↑i ∧ rv = .slice A' L.length c' ∧ wr.ownsRow wb.heap.size 3 1 (.slice A' L.length c') L.length ((ci L).map (Value.int .i64)) ∧ Rch l h hs L k1 i ∧ Ext wb wr) (fun _ iv _ => hs.length - (intOf iv).toNat)
          case atStart => exact ⟨L, 0, _, _, by omega, hkl, rfl, rfl, HOW.out, HRC.out, HEW.out⟩
          case round =>
            clear HOW HRC HEW hkl hk1
            obtain ⟨L, i, A', c', hi, hkl, rfl, rfl, hown, hrch, he⟩ := hrel
            have HOW := hid hown
            have HRC := hid hrch
            have HEW := hid he
            have HLW := hid (HLB.out.ext he)
            have hrw := HRB.out.ext he
            have b0 := old_cell he p0
            have b1 := old_cell he p1
            have hL7 := nodup_len hrch.beg.1 hrch.beg.2
            have HRO := hid (Row.of_own hown)
            have hro := HRO.out
            clear hown hrch he
            by_cases hil : i < hs.length
            · obtain ⟨hb, hoff, hBB, hcc⟩ := hrw.ints hil
              injection hBB with hBB
              injection hBB with hB1 hB2
              subst hB1 hB2
              have c1 := hcc i hil
              obtain ⟨x, hx1⟩ : ∃ x, x = hN hs i := ⟨_, rfl⟩
              have hxh : x < h := by rw [hx1]; exact (HIH.out i hil).2
              rw [← (HIH.out i hil).1, ← hx1] at c1
              obtain ⟨rb, roff, rfl, hrc⟩ := hro.ints (i := k1) (by rw [ci_len]; exact hkl)
              have c2 := hrc k1 (by rw [ci_len]; exact hkl)
              rw [ci_at hkl, ← natAt_eq _ _ hkl] at c2
              obtain ⟨y, hy1⟩ : ∃ y, y = natAt L k1 := ⟨_, rfl⟩
              rw [← hy1] at c2
              have HX := hid hx1
              have HY := hid hy1
              clear hcc hrc hrw hro hx1 hy1
              cases hc : L.contains x
              rotate_left
              · have HQ := hid (HRC.out.skip (fun _ => by rw [← HX.out]; exact List.contains_iff_mem.1 hc))
                have hmem : memI (ci L) x = true := by rw [ci_mem]; exact hc
                go_wp2_with fail
                (refine wp_region_calm (by kernel_rfl) (by kernel_rfl) ?_; (repeat (go_big_quiet_step ((go_at_call 39; exact (gives_b hmem (l19Has_any _ _ _ (ci L) _ _ (HRO.out.ext (by repeat (first | exact Ext.refl _ | refine Ext.alloc ?_ _ | assumption | refine Ext.over ?_ _ | refine Ext.drew ?_ | refine Ext.drewN ?_ _))) (ci_len L) (by omega))).calm)))); refine wpQuiet_nil ?_; rintro w1 ⟨x1, rfl⟩)
                go_wp2_with fail
                go_roundw
                case rel => exact ⟨L, i + 1, _, c', by omega, hkl, by go_num, rfl, own_ext HOW.out (by repeat (first | exact Ext.refl _ | refine Ext.alloc ?_ _ | assumption | refine Ext.over ?_ _ | refine Ext.drew ?_ | refine Ext.drewN ?_ _)), HQ.out, HEW.out.trans (by repeat (first | exact Ext.refl _ | refine Ext.alloc ?_ _ | assumption | refine Ext.over ?_ _ | refine Ext.drew ?_ | refine Ext.drewN ?_ _))⟩
                case measure => simp [intOf]; omega
              have hmem : memI (ci L) x = false := by rw [ci_mem]; exact hc
              cases hd : hasD l x y
              · have HQ := hid (HRC.out.skip (fun h9 => by rw [← HX.out, ← HY.out, hd] at h9; cases h9))
                go_wp2_with fail
                (refine wp_region_calm (by kernel_rfl) (by kernel_rfl) ?_; (repeat (go_big_quiet_step ((first | (go_at_call 39; exact (gives_b hmem (l19Has_any _ _ _ (ci L) _ _ (HRO.out.ext (by repeat (first | exact Ext.refl _ | refine Ext.alloc ?_ _ | assumption | refine Ext.over ?_ _ | refine Ext.drew ?_ | refine Ext.drewN ?_ _))) (ci_len L) (by omega))).calm) | (go_at_call 40; exact (gives_b hd (l23Door_any _ _ _ _ l _ _ _ (HLW.out.ext (by repeat (first | exact Ext.refl _ | refine Ext.alloc ?_ _ | assumption | refine Ext.over ?_ _ | refine Ext.drew ?_ | refine Ext.drewN ?_ _))) rfl hx)).calm))))); refine wpQuiet_nil ?_; rintro w1 ⟨x1, rfl⟩)
                go_wp2_with fail
                go_roundw
                case rel => exact ⟨L, i + 1, _, c', by omega, hkl, by go_num, rfl, own_ext HOW.out (by repeat (first | exact Ext.refl _ | refine Ext.alloc ?_ _ | assumption | refine Ext.over ?_ _ | refine Ext.drew ?_ | refine Ext.drewN ?_ _)), HQ.out, HEW.out.trans (by repeat (first | exact Ext.refl _ | refine Ext.alloc ?_ _ | assumption | refine Ext.over ?_ _ | refine Ext.drew ?_ | refine Ext.drewN ?_ _))⟩
                case measure => simp [intOf]; omega
              · have HQ := hid (HRC.out.push (by rw [← HA.out]; exact ha) hkl hil (fun j hj => (HIN.out j hj).1) (HIH.out i hil).2 (by rw [← HX.out, ← HY.out]; exact hd) (by rw [← HX.out]; exact hc))
                go_wp2_with fail
                (refine wp_region_calm (by kernel_rfl) (by kernel_rfl) ?_; (repeat (go_big_quiet_step ((first | (go_at_call 39; exact (gives_b hmem (l19Has_any _ _ _ (ci L) _ _ (HRO.out.ext (by repeat (first | exact Ext.refl _ | refine Ext.alloc ?_ _ | assumption | refine Ext.over ?_ _ | refine Ext.drew ?_ | refine Ext.drewN ?_ _))) (ci_len L) (by omega))).calm) | (go_at_call 40; exact (gives_b hd (l23Door_any _ _ _ _ l _ _ _ (HLW.out.ext (by repeat (first | exact Ext.refl _ | refine Ext.alloc ?_ _ | assumption | refine Ext.over ?_ _ | refine Ext.drew ?_ | refine Ext.drewN ?_ _))) rfl hx)).calm))))); refine wpQuiet_nil ?_; rintro w1 ⟨x1, rfl⟩)
                go_wp2_with (at_builtin; refine wpList_push (wb) rfl (.tmp 68) (.tmp 73) 25 rfl 3 Try.underlying25 info_int rfl (by decide) _ L.length _ rfl (wr) HOW.out (by repeat (first | exact Ext.refl _ | refine Ext.alloc ?_ _ | assumption | refine Ext.over ?_ _ | refine Ext.drew ?_ | refine Ext.drewN ?_ _)) (by repeat (first | exact Ext.refl _ | refine Ext.alloc ?_ _ | assumption | refine Ext.over ?_ _ | refine Ext.drew ?_ | refine Ext.drewN ?_ _)) _ 1 1 [.int .i64 (x)] rfl rfl (lit_cells _ _ (by first | (simp; done) | simp [ovr_size]) _ _) (by intro u hu; simp at hu; subst hu; rfl) (by omega) (by decide) ?_)
                intro A3 c3 w3 hown3 he3
                have HO3 := hid hown3
                clear hown3
                go_wp2_with fail
                go_roundw
                case rel =>
                  refine ⟨L ++ [x], i + 1, A3, c3, by omega, by simp; omega, by go_num, by simp, ?_, ?_, he3⟩
                  · rw [ci_app, List.map_append]; simpa using HO3.out
                  · rw [HX.out]; exact HQ.out
                case measure => simp [intOf]; omega
            · have HQ := hid (HRC.out.next (by omega))
              clear hrw hro
              go_wp2_with fail
              go_roundw
              case rel => exact ⟨L, k1 + 1, A', c', by omega, by go_num, rfl, HOW.out, HQ.out, HEW.out⟩
              case measure => simp [intOf]; omega
        · have hk1' : k1 = L.length := by omega
          have hL7 := nodup_len HRC.out.beg.1 HRC.out.beg.2
          have HNR := hid (show ∀ p, p < hs.length → near0 h l hs p = L.contains (hN hs p) from fun p hp => HRC.out.all (by omega) (by rw [← HA.out]; exact ha) p hp)
          clear hk1'
          go_wp2_with fail
          go_loopw [9] (fun iv wr => ∃ i : Nat, i ≤ hs.length ∧ (∀ j, j < i → near0 h l hs j = true) ∧ iv = .int .i64 ↑i ∧ Ext wi wr) (fun iv _ => hs.length - (intOf iv).toNat)
          case atStart => exact ⟨0, by omega, by omega, rfl, Ext.refl _⟩
          case round =>
            obtain ⟨i, hi, hnr, rfl, he⟩ := hrel
            have HN := hid hnr
            have HE2 := hid he
            have HEZ := hid (HEB.out.trans (HEW.out.trans he))
            have hrw := HRB.out.ext (HEW.out.trans he)
            have HRO := hid ((Row.of_own HOW.out).ext he)
            clear he hnr
            by_cases hil : i < hs.length
            · obtain ⟨hb, hoff, hBB, hcc⟩ := hrw.ints hil
              injection hBB with hBB
              injection hBB with hB1 hB2
              subst hB1 hB2
              have c1 := hcc i hil
              obtain ⟨x, hx1⟩ : ∃ x, x = hN hs i := ⟨_, rfl⟩
              rw [← (HIH.out i hil).1, ← hx1] at c1
              have HX := hid hx1
              clear hcc hrw hx1
              cases hc : L.contains x
              · have HB := hid (linked_far (h := h) (l := l) hil (by rw [HNR.out i hil, ← HX.out]; exact hc))
                have hmem : memI (ci L) x = false := by rw [ci_mem]; exact hc
                go_wp2_with (go_at_call 39; refine (gives_b hmem (l19Has_any _ _ _ (ci L) _ _ (HRO.out.ext (by repeat (first | exact Ext.refl _ | refine Ext.alloc ?_ _ | assumption | refine Ext.over ?_ _ | refine Ext.drew ?_ | refine Ext.drewN ?_ _))) (ci_len L) (by omega))).over.mono ?_; rintro e w' ⟨rfl, xw, rfl⟩)
                go_ret
                exact ⟨by rw [HB.out]; rfl, HEZ.out.trans (by repeat (first | exact Ext.refl _ | refine Ext.alloc ?_ _ | assumption | refine Ext.over ?_ _ | refine Ext.drew ?_ | refine Ext.drewN ?_ _))⟩
              · have HB := hid (show near0 h l hs i = true by rw [HNR.out i hil, ← HX.out]; exact hc)
                have hmem : memI (ci L) x = true := by rw [ci_mem]; exact hc
                go_wp2_with (go_at_call 39; refine (gives_b hmem (l19Has_any _ _ _ (ci L) _ _ (HRO.out.ext (by repeat (first | exact Ext.refl _ | refine Ext.alloc ?_ _ | assumption | refine Ext.over ?_ _ | refine Ext.drew ?_ | refine Ext.drewN ?_ _))) (ci_len L) (by omega))).over.mono ?_; rintro e w' ⟨rfl, xw, rfl⟩)
                go_roundw
                case rel => exact ⟨i + 1, by omega, lt_succ_all HN.out HB.out, by go_num, HE2.out.trans (by repeat (first | exact Ext.refl _ | refine Ext.alloc ?_ _ | assumption | refine Ext.over ?_ _ | refine Ext.drew ?_ | refine Ext.drewN ?_ _))⟩
                case measure => simp [intOf]; omega
            · have HB := hid (linked_yes HH.out (fun j hj => HN.out j (by omega)))
              clear hrw
              go_wp2_with fail
              go_ret
              exact ⟨by rw [HB.out]; rfl, HEZ.out⟩
end Go.Proofs.Ytnkdafdafgjicaa
