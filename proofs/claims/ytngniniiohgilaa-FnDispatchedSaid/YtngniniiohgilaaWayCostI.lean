/- Walks: WayCost. Conditions: sizes. -/
import Derived.Test.YtngniniiohgilaaHall
import Derived.Test.YtngniniiohgilaaInts
namespace Go.Proofs.Ytngniniiohgilaa
open Go.RowKit
set_option linter.unusedVariables false

def sumTo (f : Nat → Int) : Nat → Int
  | 0 => 0
  | k + 1 => sumTo f k + f k
theorem sumTo_bound {f : Nat → Int} {m : Int} : ∀ k : Nat, (∀ j, j < k → 0 ≤ f j ∧ f j ≤ m) → 0 ≤ sumTo f k ∧ sumTo f k ≤ k * m
  | 0, _ => by simp [sumTo]
  | k + 1, h => by
    have h1 := sumTo_bound k fun j hj => h j (by omega)
    have h2 := h k (by omega)
    have h3 : ((k + 1 : Nat) : Int) * m = k * m + m := by rw [Int.natCast_succ, Int.add_mul, Int.one_mul]
    unfold sumTo
    omega
def wc (h : Int) (l : List T2) (g p : List Int) (k : Nat) : Int := hallDist h l (atI g k) (atI p k)
def wayCost (h : Int) (l : List T2) (g p : List Int) : Int := if g.length = p.length then (if allN g.length (fun k => decide (0 ≤ wc h l g p k)) = true then sumTo (wc h l g p) g.length else -1) else -1
theorem wayCost_len {h : Int} {l : List T2} {g p : List Int} (e : ¬ g.length = p.length) : wayCost h l g p = -1 := by unfold wayCost; rw [if_neg e]
theorem wayCost_bad {h : Int} {l : List T2} {g p : List Int} {k : Nat} (hk : k < g.length) (hb : wc h l g p k < 0) : wayCost h l g p = -1 := by
  unfold wayCost; rw [allN_false hk (decide_eq_false (by omega))]; simp
theorem wayCost_ok {h : Int} {l : List T2} {g p : List Int} (e : g.length = p.length) (hb : ∀ k, k < g.length → 0 ≤ wc h l g p k) : wayCost h l g p = sumTo (wc h l g p) g.length := by
  unfold wayCost; rw [if_pos e, allN_true (fun j hj => decide_eq_true (hb j hj))]; simp
theorem hallDist_bound (h : Int) (l : List T2) (a b : Int) : -1 ≤ hallDist h l a b ∧ hallDist h l a b ≤ 7 := by
  unfold hallDist
  split
  · rename_i hh
    obtain ⟨hk, a0, a1⟩ := hasHall_iff.1 hh.1
    obtain ⟨_, h1, h7, _⟩ := houseOk_bounds hk
    obtain ⟨h, rfl⟩ : ∃ k : Nat, h = k := ⟨h.toNat, by omega⟩
    rw [Int.toNat_natCast]
    have h1 := depthD (l := l) (h := h) (a := a.toNat) b.toNat (by omega)
    have h2 := dist_ge (n := h) (adj := adjD l) (a := a.toNat) b.toNat
    omega
  · omega
set_option maxRecDepth 100000 in
set_option maxHeartbeats 1600000 in
theorem iWayCost_any (h : Int) (A : Option Addr) (n c : Nat) (l : List T2) (B : Option Addr) (m d : Nat) (g : List Int) (C : Option Addr) (r e : Nat) (p : List Int) (w : World) (hl : Row w A (l.flatMap T2.v)) (hn : l.length = n) (hx : n ≤ 1048577) (hg : Row w B (g.map (Value.int .i64))) (hm : g.length = m) (hy : m ≤ 1048577) (hp : Row w C (p.map (Value.int .i64))) (hr : p.length = r) (hz : r ≤ 1048577) :
    Gives Try.prog 26 #[.agg #[.int .i64 h, .slice A n c], .slice B m d, .slice C r e] w (.int .i64 (wayCost h l g p)) := by
  subst hn hm hr
  by_cases hgp : g.length = p.length
  rotate_left
  · have HB := hid (wayCost_len (h := h) (l := l) hgp)
    (unfold Gives; go_enter Try.func26, Try.ntmps26)
    go_wp2_with fail
    go_ret
    exact ⟨by rw [HB.out]; rfl, by repeat (first | exact Ext.refl _ | refine Ext.alloc ?_ _ | assumption | refine Ext.over ?_ _ | refine Ext.drew ?_ | refine Ext.drewN ?_ _)⟩
  have HGP := hid hgp
  (unfold Gives; go_enter Try.func26, Try.ntmps26)
  go_wp2_with fail
  clear hgp
  go_loopw [7, 18] (fun s i wr => ∃ (k : Nat), (∀ j, j < k → 0 ≤ wc h l g p j) ∧ k ≤ g.length ∧ i = .int .i64 ↑k ∧ s = .int .i64 (sumTo (wc h l g p) k) ∧ Ext w wr ∧ wr.cell? ⟨w.heap.size, 0, none⟩ = some (.int .i64 h) ∧ wr.cell? ⟨w.heap.size, 1, none⟩ = some (.slice A l.length c)) (fun _ i _ => (g.length - (intOf i).toNat))
  case atStart => exact ⟨0, by omega, by omega, rfl, rfl, by repeat (first | exact Ext.refl _ | refine Ext.alloc ?_ _ | assumption | refine Ext.over ?_ _ | refine Ext.drew ?_ | refine Ext.drewN ?_ _), by go_simp, by go_simp⟩
  case round =>
    obtain ⟨k, hk, hkn, rfl, rfl, he, b0, b1⟩ := hrel
    have HK := hid hk
    have HE := hid he
    have HL := hid (hl.ext he)
    have hG := hg.ext he
    have hP := hp.ext he
    have hsb := sumTo_bound (f := wc h l g p) (m := 7) k (fun j hj => ⟨hk j hj, (hallDist_bound _ _ _ _).2⟩)
    by_cases hlt : k < g.length
    · have hlt' : k < p.length := by have := HGP.out; omega
      obtain ⟨gb, goff, rfl, hgc⟩ := hG.ints hlt
      obtain ⟨pb, poff, rfl, hpc⟩ := hP.ints (i := k) (by omega)
      have c1 := hgc k hlt
      have c2 := hpc k (by omega)
      have hwb := hallDist_bound h l (atI g k) (atI p k)
      obtain ⟨v, hv⟩ : ∃ v, v = hallDist h l (atI g k) (atI p k) := ⟨_, rfl⟩
      rw [← hv] at hwb
      have HV := hid hv
      obtain ⟨s, hs⟩ : ∃ s, s = sumTo (wc h l g p) k := ⟨_, rfl⟩
      rw [← hs] at hsb ⊢
      have HS := hid hs
      clear hk he hl hg hp hG hP hgc hpc hv hs
      by_cases hneg : v < 0
      · have HB := hid (wayCost_bad (h := h) (l := l) (g := g) (p := p) hlt (show wc h l g p k < 0 by unfold wc; rw [← HV.out]; exact hneg))
        go_wp2_with fail
        (refine wp_region_calm (by kernel_rfl) (by kernel_rfl) ?_; (repeat (go_big_quiet_step ((go_at_call 10; exact (gives_v HV.out.symm (iHallDistance_any _ _ _ _ l _ _ _ (HL.out.ext (by repeat (first | exact Ext.refl _ | refine Ext.alloc ?_ _ | assumption | refine Ext.over ?_ _ | refine Ext.drew ?_ | refine Ext.drewN ?_ _))) rfl hx)).calm)))); refine wpQuiet_nil ?_; rintro w1 ⟨x1, rfl⟩)
        go_wp2_with fail
        go_ret
        exact ⟨by rw [HB.out]; rfl, HE.out.trans (by repeat (first | exact Ext.refl _ | refine Ext.alloc ?_ _ | assumption | refine Ext.over ?_ _ | refine Ext.drew ?_ | refine Ext.drewN ?_ _))⟩
      · have HB := hid (show 0 ≤ wc h l g p k by unfold wc; rw [← HV.out]; omega)
        go_wp2_with fail
        (refine wp_region_calm (by kernel_rfl) (by kernel_rfl) ?_; (repeat (go_big_quiet_step ((go_at_call 10; exact (gives_v HV.out.symm (iHallDistance_any _ _ _ _ l _ _ _ (HL.out.ext (by repeat (first | exact Ext.refl _ | refine Ext.alloc ?_ _ | assumption | refine Ext.over ?_ _ | refine Ext.drew ?_ | refine Ext.drewN ?_ _))) rfl hx)).calm)))); refine wpQuiet_nil ?_; rintro w1 ⟨x1, rfl⟩)
        go_wp2_with fail
        go_roundw
        case rel =>
          have hR : Hid (Value.int .i64 (s + v) = Value.int .i64 (sumTo (wc h l g p) (k + 1))) := hid (by show _ = Value.int .i64 (sumTo (wc h l g p) k + wc h l g p k); unfold wc; rw [← HV.out]; show _ = Value.int .i64 (sumTo (wc h l g p) k + v); rw [← HS.out])
          first
            | exact ⟨k + 1, lt_succ_all HK.out HB.out, by omega, by go_num, hR.out, HE.out.trans (by repeat (first | exact Ext.refl _ | refine Ext.alloc ?_ _ | assumption | refine Ext.over ?_ _ | refine Ext.drew ?_ | refine Ext.drewN ?_ _)), by go_simp, by go_simp⟩
            | ((repeat apply Exists.intro); exact ⟨⟨k + 1, lt_succ_all HK.out HB.out, by omega, by go_num, hR.out, HE.out.trans (by repeat (first | exact Ext.refl _ | refine Ext.alloc ?_ _ | assumption | refine Ext.over ?_ _ | refine Ext.drew ?_ | refine Ext.drewN ?_ _)), by go_simp, by go_simp⟩, rfl⟩)
        case measure => simp [intOf]; omega
    · have HB := hid (wayCost_ok (h := h) (l := l) HGP.out (fun j hj => HK.out j (by omega)))
      have hkl : g.length = k := by omega
      rw [hkl] at HB
      have hlt' : ¬ k < p.length := by have := HGP.out; omega
      clear hkl
      go_wp2_with fail
      go_ret
      exact ⟨by rw [HB.out]; rfl, HE.out⟩
end Go.Proofs.Ytngniniiohgilaa
