/- Walks: NearestTo. Conditions: sizes. -/
import Derived.Test.YtnkdafdafgjicaaHallsI
namespace Go.Proofs.Ytnkdafdafgjicaa
open Go.RowKit
set_option linter.unusedVariables false

/-- The first of k things that is nearest, -1 if there is none. -/
def nearTo (d : Nat → Int) : Nat → Int
  | 0 => -1
  | k + 1 => if nearTo d k < 0 then k else if d k < d (nearTo d k).toNat then k else nearTo d k
theorem nearTo_cases (d : Nat → Int) (k : Nat) : nearTo d k = -1 ∧ k = 0 ∨ ∃ b : Nat, nearTo d k = b ∧ b < k := by
  induction k with
  | zero => exact .inl ⟨rfl, rfl⟩
  | succ k ih =>
    refine .inr ?_
    unfold nearTo
    split
    · exact ⟨k, rfl, by omega⟩
    · split
      · exact ⟨k, rfl, by omega⟩
      · rcases ih with ⟨h, _⟩ | ⟨b, h, hb⟩
        · omega
        · exact ⟨b, h, by omega⟩
theorem nearTo_first (d : Nat → Int) : nearTo d 1 = 0 := by unfold nearTo nearTo; rfl
theorem nearTo_yes {d : Nat → Int} {k b : Nat} (h : nearTo d k = b) (hd : decide (d k < d b) = true) : nearTo d (k + 1) = k := by
  unfold nearTo; rw [h, if_neg (by omega), Int.toNat_natCast, if_pos (of_decide_eq_true hd)]
theorem nearTo_no {d : Nat → Int} {k b : Nat} (h : nearTo d k = b) (hd : decide (d k < d b) = false) : nearTo d (k + 1) = b := by
  unfold nearTo; rw [h, if_neg (by omega), Int.toNat_natCast, if_neg (of_decide_eq_false hd)]
def gd (h : Nat) (l : List T2) (g : List Int) (x : Nat) (k : Nat) : Int := dist h (adjD l) (atI g k).toNat x
def nearestTo (h : Int) (l : List T2) (g : List Int) (x : Int) : Int := if halls h l g = true ∧ btw x 0 (h - 1) = true then nearTo (gd h.toNat l g x.toNat) g.length else -1
theorem near_no {h : Int} {l : List T2} {g : List Int} {x : Int} (e : halls h l g = false) : nearestTo h l g x = -1 := by unfold nearestTo; rw [if_neg (by rw [e]; simp)]
theorem near_out {h : Int} {l : List T2} {g : List Int} {x : Int} (e : btw x 0 (h - 1) = false) : nearestTo h l g x = -1 := by unfold nearestTo; rw [if_neg (by rw [e]; simp)]
theorem near_ok {h x : Nat} {l : List T2} {g : List Int} (e : halls h l g = true) (e' : btw x 0 (h - 1) = true) : nearestTo h l g x = nearTo (gd h l g x) g.length := by unfold nearestTo; rw [if_pos ⟨e, e'⟩]; rfl
set_option maxRecDepth 100000 in
set_option maxHeartbeats 1600000 in
theorem iNear_any (h : Int) (A : Option Addr) (n c : Nat) (l : List T2) (B : Option Addr) (m d : Nat) (g : List Int) (x : Int) (w : World) (hl : Row w A (l.flatMap T2.v)) (hn : l.length = n) (hx : n ≤ 1048577) (hg : Row w B (g.map (Value.int .i64))) (hm : g.length = m) (hy : m ≤ 1048577) :
    Gives Try.prog 13 #[.agg #[.int .i64 h, .slice A n c], .slice B m d, .int .i64 x] w (.int .i64 (nearestTo h l g x)) := by
  subst hn hm
  cases hk : halls h l g
  · have HB := hid (near_no (x := x) hk)
    (unfold Gives; go_enter Try.func13, Try.ntmps13)
    go_wp2_with (go_at_call 34; refine (gives_b hk (ihalls_any _ _ _ _ l _ _ _ g _ (hl.ext (by repeat (first | exact Ext.refl _ | refine Ext.alloc ?_ _ | assumption | refine Ext.over ?_ _ | refine Ext.drew ?_ | refine Ext.drewN ?_ _))) rfl hx (hg.ext (by repeat (first | exact Ext.refl _ | refine Ext.alloc ?_ _ | assumption | refine Ext.over ?_ _ | refine Ext.drew ?_ | refine Ext.drewN ?_ _))) rfl hy)).over.mono ?_; rintro e w' ⟨rfl, xw, rfl⟩)
    go_ret
    exact ⟨by rw [HB.out]; rfl, by repeat (first | exact Ext.refl _ | refine Ext.alloc ?_ _ | assumption | refine Ext.over ?_ _ | refine Ext.drew ?_ | refine Ext.drewN ?_ _)⟩
  obtain ⟨hk1, hk2⟩ := halls_iff.1 hk
  obtain ⟨hd, h1, h7, h12⟩ := houseOk_bounds hk1
  have HD := hid hd
  have HK2 := hid hk2
  have HG := hid hg
  clear hd hk1 hk2
  cases hxb : btw x 0 (h - 1)
  · have HB := hid (near_out (l := l) (g := g) hxb)
    (unfold Gives; go_enter Try.func13, Try.ntmps13)
    go_wp2_with (first | (go_at_call 34; refine (gives_b hk (ihalls_any _ _ _ _ l _ _ _ g _ (hl.ext (by repeat (first | exact Ext.refl _ | refine Ext.alloc ?_ _ | assumption | refine Ext.over ?_ _ | refine Ext.drew ?_ | refine Ext.drewN ?_ _))) rfl hx (HG.out.ext (by repeat (first | exact Ext.refl _ | refine Ext.alloc ?_ _ | assumption | refine Ext.over ?_ _ | refine Ext.drew ?_ | refine Ext.drewN ?_ _))) rfl hy)).over.mono ?_; rintro e w' ⟨rfl, xw, rfl⟩) | (go_at_call 35; refine (gives_b hxb (isHall_any _ _ _ _ _ _ h1 h7)).over.mono ?_; rintro e w' ⟨rfl, xw, rfl⟩))
    go_ret
    exact ⟨by rw [HB.out]; rfl, by repeat (first | exact Ext.refl _ | refine Ext.alloc ?_ _ | assumption | refine Ext.over ?_ _ | refine Ext.drew ?_ | refine Ext.drewN ?_ _)⟩
  have hxx := btw_iff.1 hxb
  obtain ⟨h, rfl⟩ : ∃ k : Nat, h = k := ⟨h.toNat, by omega⟩
  obtain ⟨x, rfl⟩ : ∃ k : Nat, x = k := ⟨x.toNat, by omega⟩
  have HB := hid (near_ok hk hxb)
  have hxh : x < h := by omega
  have h7' : h ≤ 7 := by omega
  (unfold Gives; go_enter Try.func13, Try.ntmps13)
  go_wp2_with (first | (go_at_call 34; refine (gives_b hk (ihalls_any _ _ _ _ l _ _ _ g _ (hl.ext (by repeat (first | exact Ext.refl _ | refine Ext.alloc ?_ _ | assumption | refine Ext.over ?_ _ | refine Ext.drew ?_ | refine Ext.drewN ?_ _))) rfl hx (HG.out.ext (by repeat (first | exact Ext.refl _ | refine Ext.alloc ?_ _ | assumption | refine Ext.over ?_ _ | refine Ext.drew ?_ | refine Ext.drewN ?_ _))) rfl hy)).over.mono ?_; rintro e w' ⟨rfl, xw, rfl⟩) | (go_at_call 35; refine (gives_b hxb (isHall_any _ _ _ _ _ _ h1 h7)).over.mono ?_; rintro e w' ⟨rfl, xw, rfl⟩))
  clear hk hxb
  go_loopw [7, 22] (fun o i wr => ∃ (k : Nat), k ≤ g.length ∧ i = .int .i64 ↑k ∧ o = .int .i64 (nearTo (gd h l g x) k) ∧ Ext w wr ∧ wr.cell? ⟨w.heap.size, 0, none⟩ = some (.int .i64 h) ∧ wr.cell? ⟨w.heap.size, 1, none⟩ = some (.slice A l.length c)) (fun _ i _ => (g.length - (intOf i).toNat))
  case atStart => exact ⟨0, by omega, rfl, rfl, by repeat (first | exact Ext.refl _ | refine Ext.alloc ?_ _ | assumption | refine Ext.over ?_ _ | refine Ext.drew ?_ | refine Ext.drewN ?_ _), by go_simp, by go_simp⟩
  case round =>
    obtain ⟨k, hkn, rfl, rfl, he, b0, b1⟩ := hrel
    have HE := hid he
    have HL := hid (hl.ext he)
    have hG := HG.out.ext he
    by_cases hlt : k < g.length
    · obtain ⟨gb, goff, rfl, hgc⟩ := hG.ints hlt
      have c1 := hgc k hlt
      have r1 := HK2.out k hlt
      obtain ⟨gk, hgk⟩ : ∃ u : Nat, u = (atI g k).toNat := ⟨_, rfl⟩
      have hgk' : atI g k = gk := by omega
      rw [hgk'] at c1 r1
      have q1 : gk < h := by omega
      have HGK := hid hgk
      clear hgk hgk'
      rcases nearTo_cases (gd h l g x) k with ⟨hn1, rfl⟩ | ⟨b, hb, hbk⟩
      · rw [hn1]
        simp only [Nat.add_zero] at c1
        clear hn1 hgc he
        go_wp2_with fail
        (refine wp_region_calm (by kernel_rfl) (by kernel_rfl) ?_; (repeat (go_big_quiet_step ((go_at_call 36; exact (distance_any h _ _ _ l _ _ _ (HL.out.ext (by repeat (first | exact Ext.refl _ | refine Ext.alloc ?_ _ | assumption | refine Ext.over ?_ _ | refine Ext.drew ?_ | refine Ext.drewN ?_ _))) rfl h12 h7' HD.out (by assumption) (by assumption)).calm)))); refine wpQuiet_nil ?_; rintro w1 ⟨x1, rfl⟩)
        go_wp2_with fail
        go_roundw
        case rel => exact ⟨1, by omega, rfl, by rw [nearTo_first]; rfl, HE.out.trans (by repeat (first | exact Ext.refl _ | refine Ext.alloc ?_ _ | assumption | refine Ext.over ?_ _ | refine Ext.drew ?_ | refine Ext.drewN ?_ _)), by go_simp, by go_simp⟩
        case measure => simp [intOf]; omega
      · have c2 := hgc b (by omega)
        have r2 := HK2.out b (by omega)
        obtain ⟨gb', hgb⟩ : ∃ u : Nat, u = (atI g b).toNat := ⟨_, rfl⟩
        have hgb' : atI g b = gb' := by omega
        rw [hgb'] at c2 r2
        have q2 : gb' < h := by omega
        have HGB := hid hgb
        have HBB := hid hb
        rw [hb]
        clear hgb hgb' hgc he hb
        have hneg : decide ((b : Int) < 0) = false := by simp
        have hbl : b < g.length := by omega
        cases hlt2 : decide (dist h (adjD l) gk x < dist h (adjD l) gb' x)
        · have HQ := hid (nearTo_no (d := gd h l g x) HBB.out (show decide (dist h (adjD l) (atI g k).toNat x < dist h (adjD l) (atI g b).toNat x) = false by rw [← HGK.out, ← HGB.out]; exact hlt2))
          go_wp2_with fail
          (refine wp_region_calm (by kernel_rfl) (by kernel_rfl) ?_; (repeat (go_big_quiet_step ((go_at_call 36; exact (distance_any h _ _ _ l _ _ _ (HL.out.ext (by repeat (first | exact Ext.refl _ | refine Ext.alloc ?_ _ | assumption | refine Ext.over ?_ _ | refine Ext.drew ?_ | refine Ext.drewN ?_ _))) rfl h12 h7' HD.out (by assumption) (by assumption)).calm)))); refine wpQuiet_nil ?_; rintro w1 ⟨x1, rfl⟩)
          go_wp2_with fail
          go_roundw
          case rel => exact ⟨k + 1, by omega, by go_num, by rw [HQ.out], HE.out.trans (by repeat (first | exact Ext.refl _ | refine Ext.alloc ?_ _ | assumption | refine Ext.over ?_ _ | refine Ext.drew ?_ | refine Ext.drewN ?_ _)), by go_simp, by go_simp⟩
          case measure => simp [intOf]; omega
        · have HQ := hid (nearTo_yes (d := gd h l g x) HBB.out (show decide (dist h (adjD l) (atI g k).toNat x < dist h (adjD l) (atI g b).toNat x) = true by rw [← HGK.out, ← HGB.out]; exact hlt2))
          go_wp2_with fail
          (refine wp_region_calm (by kernel_rfl) (by kernel_rfl) ?_; (repeat (go_big_quiet_step ((go_at_call 36; exact (distance_any h _ _ _ l _ _ _ (HL.out.ext (by repeat (first | exact Ext.refl _ | refine Ext.alloc ?_ _ | assumption | refine Ext.over ?_ _ | refine Ext.drew ?_ | refine Ext.drewN ?_ _))) rfl h12 h7' HD.out (by assumption) (by assumption)).calm)))); refine wpQuiet_nil ?_; rintro w1 ⟨x1, rfl⟩)
          go_wp2_with fail
          go_roundw
          case rel => exact ⟨k + 1, by omega, by go_num, by rw [HQ.out], HE.out.trans (by repeat (first | exact Ext.refl _ | refine Ext.alloc ?_ _ | assumption | refine Ext.over ?_ _ | refine Ext.drew ?_ | refine Ext.drewN ?_ _)), by go_simp, by go_simp⟩
          case measure => simp [intOf]; omega
    · obtain rfl : k = g.length := by omega
      go_wp2_with fail
      go_ret
      exact ⟨by rw [HB.out]; rfl, HE.out⟩
end Go.Proofs.Ytnkdafdafgjicaa
