/- Walks: NearestTo of the reference. Conditions: sizes. -/
import Derived.Test.YtnkdafdafgjicaaHallsS
import Derived.Test.YtnkdafdafgjicaaNearI
namespace Go.Proofs.Ytnkdafdafgjicaa
open Go.RowKit
set_option linter.unusedVariables false

set_option maxRecDepth 100000 in
set_option maxHeartbeats 1600000 in
theorem sNear_any (h : Int) (A : Option Addr) (n c : Nat) (l : List T2) (B : Option Addr) (m d : Nat) (g : List Int) (x : Int) (w : World) (hl : Row w A (l.flatMap T2.v)) (hn : l.length = n) (hx : n ≤ 1048577) (hg : Row w B (g.map (Value.int .i64))) (hm : g.length = m) (hy : m ≤ 1048577) :
    Gives Try.prog 10 #[.agg #[.int .i64 h, .slice A n c], .slice B m d, .int .i64 x] w (.int .i64 (nearestTo h l g x)) := by
  subst hn hm
  cases hk : halls h l g
  · have HB := hid (near_no (x := x) hk)
    (unfold Gives; go_enter Try.func10, Try.ntmps10)
    go_wp2_with (go_at_call 30; refine (gives_b hk (shalls_any _ _ _ _ l _ _ _ g _ (hl.ext (by repeat (first | exact Ext.refl _ | refine Ext.alloc ?_ _ | assumption | refine Ext.over ?_ _ | refine Ext.drew ?_ | refine Ext.drewN ?_ _))) rfl hx (hg.ext (by repeat (first | exact Ext.refl _ | refine Ext.alloc ?_ _ | assumption | refine Ext.over ?_ _ | refine Ext.drew ?_ | refine Ext.drewN ?_ _))) rfl hy)).over.mono ?_; rintro e w' ⟨rfl, xw, rfl⟩)
    go_ret
    exact ⟨by rw [HB.out]; rfl, by repeat (first | exact Ext.refl _ | refine Ext.alloc ?_ _ | assumption | refine Ext.over ?_ _ | refine Ext.drew ?_ | refine Ext.drewN ?_ _)⟩
  obtain ⟨hk1, hk2⟩ := halls_iff.1 hk
  obtain ⟨hd, h1, h7, h12⟩ := houseOk_bounds hk1
  have HD := hid hd
  have HK2 := hid hk2
  have HG := hid hg
  clear hd hk1 hk2
  cases hxb : btw x 0 (h - 1)
  · have HHX := hid (show hasHall h l x = false by unfold hasHall; rw [hxb]; simp)
    have HB := hid (near_out (l := l) (g := g) hxb)
    (unfold Gives; go_enter Try.func10, Try.ntmps10)
    go_wp2_with (first | (go_at_call 30; refine (gives_b hk (shalls_any _ _ _ _ l _ _ _ g _ (hl.ext (by repeat (first | exact Ext.refl _ | refine Ext.alloc ?_ _ | assumption | refine Ext.over ?_ _ | refine Ext.drew ?_ | refine Ext.drewN ?_ _))) rfl hx (HG.out.ext (by repeat (first | exact Ext.refl _ | refine Ext.alloc ?_ _ | assumption | refine Ext.over ?_ _ | refine Ext.drew ?_ | refine Ext.drewN ?_ _))) rfl hy)).over.mono ?_; rintro e w' ⟨rfl, xw, rfl⟩) | (go_at_call 31; refine (gives_b HHX.out (l23Has_any _ _ _ _ l _ _ (hl.ext (by repeat (first | exact Ext.refl _ | refine Ext.alloc ?_ _ | assumption | refine Ext.over ?_ _ | refine Ext.drew ?_ | refine Ext.drewN ?_ _))) rfl hx)).over.mono ?_; rintro e w' ⟨rfl, xw, rfl⟩))
    go_ret
    exact ⟨by rw [HB.out]; rfl, by repeat (first | exact Ext.refl _ | refine Ext.alloc ?_ _ | assumption | refine Ext.over ?_ _ | refine Ext.drew ?_ | refine Ext.drewN ?_ _)⟩
  have hxx := btw_iff.1 hxb
  obtain ⟨h, rfl⟩ : ∃ k : Nat, h = k := ⟨h.toNat, by omega⟩
  obtain ⟨x, rfl⟩ : ∃ k : Nat, x = k := ⟨x.toNat, by omega⟩
  have HB := hid (near_ok hk hxb)
  have HHX := hid (show hasHall h l x = true by unfold hasHall; rw [(halls_iff.1 hk).1, hxb]; rfl)
  have hxh : x < h := by omega
  have h7' : h ≤ 7 := by omega
  (unfold Gives; go_enter Try.func10, Try.ntmps10)
  go_wp2_with (first | (go_at_call 30; refine (gives_b hk (shalls_any _ _ _ _ l _ _ _ g _ (hl.ext (by repeat (first | exact Ext.refl _ | refine Ext.alloc ?_ _ | assumption | refine Ext.over ?_ _ | refine Ext.drew ?_ | refine Ext.drewN ?_ _))) rfl hx (HG.out.ext (by repeat (first | exact Ext.refl _ | refine Ext.alloc ?_ _ | assumption | refine Ext.over ?_ _ | refine Ext.drew ?_ | refine Ext.drewN ?_ _))) rfl hy)).over.mono ?_; rintro e w' ⟨rfl, xw, rfl⟩) | (go_at_call 31; refine (gives_b HHX.out (l23Has_any _ _ _ _ l _ _ (hl.ext (by repeat (first | exact Ext.refl _ | refine Ext.alloc ?_ _ | assumption | refine Ext.over ?_ _ | refine Ext.drew ?_ | refine Ext.drewN ?_ _))) rfl hx)).over.mono ?_; rintro e w' ⟨rfl, xw, rfl⟩))
  clear hk hxb
  refine (l23Distances_any h A l.length c l x _ (hl.ext (by repeat (first | exact Ext.refl _ | refine Ext.alloc ?_ _ | assumption | refine Ext.over ?_ _ | refine Ext.drew ?_ | refine Ext.drewN ?_ _))) rfl h12 h7' hxh).mono ?_
  rintro _ w2 ⟨gp, rfl, ho, he⟩
  have HE := hid (Ext.trans (show Ext w _ by repeat (first | exact Ext.refl _ | refine Ext.alloc ?_ _ | assumption | refine Ext.over ?_ _ | refine Ext.drew ?_ | refine Ext.drewN ?_ _)) he)
  have HO := hid ho
  clear ho he
  go_wp2_with fail
  go_loopw [7, 9] (fun o i wr => ∃ (k : Nat), k ≤ g.length ∧ i = .int .i64 ↑k ∧ o = .int .i64 (nearTo (gd h l g x) k) ∧ Ext w2 wr) (fun _ i _ => (g.length - (intOf i).toNat))
  case atStart => exact ⟨0, by omega, rfl, rfl, by repeat (first | exact Ext.refl _ | refine Ext.alloc ?_ _ | assumption | refine Ext.over ?_ _ | refine Ext.drew ?_ | refine Ext.drewN ?_ _)⟩
  case round =>
    obtain ⟨k, hkn, rfl, rfl, he⟩ := hrel
    have HE1 := hid he
    have HE2 := hid (HE.out.trans he)
    have hG := HG.out.ext HE2.out
    by_cases hlt : k < g.length
    · obtain ⟨gb, goff, rfl, hgc⟩ := hG.ints hlt
      have c1 := hgc k hlt
      have r1 := HK2.out k hlt
      obtain ⟨gk, hgk⟩ : ∃ u : Nat, u = (atI g k).toNat := ⟨_, rfl⟩
      have hgk' : atI g k = gk := by omega
      rw [hgk'] at c1 r1
      have q1 : gk < h := by omega
      obtain ⟨dk, hdk⟩ : ∃ d, d = dist h (adjD l) x gk := ⟨_, rfl⟩
      have p1 : wr.cell? ⟨gp, gk, none⟩ = some (.int .i64 dk) := by rw [hdk]; exact old_cell he (by rw [HO.out.cellAt gk (by omega)]; exact distC_get q1)
      have HGK := hid hgk
      have HDK := hid (hdk.trans (dist_symm hxh q1 (adjD_symm l)))
      clear hgk hgk' hdk
      rcases nearTo_cases (gd h l g x) k with ⟨hn1, rfl⟩ | ⟨b, hb, hbk⟩
      · rw [hn1]
        simp only [Nat.add_zero] at c1
        clear hn1 hgc he
        go_wp2_with fail
        (refine wp_region_calm (by kernel_rfl) (by kernel_rfl) ?_; (repeat (go_big_quiet_step (fail))); refine wpQuiet_nil ?_; rintro w1 ⟨x1, rfl⟩)
        go_wp2_with fail
        go_roundw
        case rel => exact ⟨1, by omega, rfl, by rw [nearTo_first]; rfl, HE1.out.trans (by repeat (first | exact Ext.refl _ | refine Ext.alloc ?_ _ | assumption | refine Ext.over ?_ _ | refine Ext.drew ?_ | refine Ext.drewN ?_ _))⟩
        case measure => simp [intOf]; omega
      · have c2 := hgc b (by omega)
        have r2 := HK2.out b (by omega)
        obtain ⟨gb', hgb⟩ : ∃ u : Nat, u = (atI g b).toNat := ⟨_, rfl⟩
        have hgb' : atI g b = gb' := by omega
        rw [hgb'] at c2 r2
        have q2 : gb' < h := by omega
        obtain ⟨db, hdb⟩ : ∃ d, d = dist h (adjD l) x gb' := ⟨_, rfl⟩
        have p2 : wr.cell? ⟨gp, gb', none⟩ = some (.int .i64 db) := by rw [hdb]; exact old_cell he (by rw [HO.out.cellAt gb' (by omega)]; exact distC_get q2)
        have HGB := hid hgb
        have HDB := hid (hdb.trans (dist_symm hxh q2 (adjD_symm l)))
        have HBB := hid hb
        rw [hb]
        clear hgb hgb' hgc he hb hdb
        have hneg : decide ((b : Int) < 0) = false := by simp
        have hbl : b < g.length := by omega
        cases hlt2 : decide (dk < db)
        · have HQ := hid (nearTo_no (d := gd h l g x) HBB.out (show decide (dist h (adjD l) (atI g k).toNat x < dist h (adjD l) (atI g b).toNat x) = false by rw [← HGK.out, ← HGB.out, ← HDK.out, ← HDB.out]; exact hlt2))
          go_wp2_with fail
          (refine wp_region_calm (by kernel_rfl) (by kernel_rfl) ?_; (repeat (go_big_quiet_step (fail))); refine wpQuiet_nil ?_; rintro w1 ⟨x1, rfl⟩)
          go_wp2_with fail
          go_roundw
          case rel => exact ⟨k + 1, by omega, by go_num, by rw [HQ.out], HE1.out.trans (by repeat (first | exact Ext.refl _ | refine Ext.alloc ?_ _ | assumption | refine Ext.over ?_ _ | refine Ext.drew ?_ | refine Ext.drewN ?_ _))⟩
          case measure => simp [intOf]; omega
        · have HQ := hid (nearTo_yes (d := gd h l g x) HBB.out (show decide (dist h (adjD l) (atI g k).toNat x < dist h (adjD l) (atI g b).toNat x) = true by rw [← HGK.out, ← HGB.out, ← HDK.out, ← HDB.out]; exact hlt2))
          go_wp2_with fail
          (refine wp_region_calm (by kernel_rfl) (by kernel_rfl) ?_; (repeat (go_big_quiet_step (fail))); refine wpQuiet_nil ?_; rintro w1 ⟨x1, rfl⟩)
          go_wp2_with fail
          go_roundw
          case rel => exact ⟨k + 1, by omega, by go_num, by rw [HQ.out], HE1.out.trans (by repeat (first | exact Ext.refl _ | refine Ext.alloc ?_ _ | assumption | refine Ext.over ?_ _ | refine Ext.drew ?_ | refine Ext.drewN ?_ _))⟩
          case measure => simp [intOf]; omega
    · obtain rfl : k = g.length := by omega
      go_wp2_with fail
      go_ret
      exact ⟨by rw [HB.out]; rfl, HE2.out⟩
end Go.Proofs.Ytnkdafdafgjicaa
