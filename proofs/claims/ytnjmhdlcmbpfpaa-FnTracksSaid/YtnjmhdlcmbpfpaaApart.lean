/- Walks: sightingsOk, MostApart. Conditions: sizes. -/
import Derived.Test.YtnjmhdlcmbpfpaaTrack
import Derived.Test.YtnjmhdlcmbpfpaaSlices
namespace Go.Proofs.Ytnjmhdlcmbpfpaa
open Go.RowKit

def sights (l : List T3) (s : Int) : Bool := allN l.length (sokAt l) && (decide (l.length ≤ 8) && btw s 1 20)
theorem sightingsOk_any (A : Option Addr) (n c : Nat) (l : List T3) (s : Int) (w : World) (hl : Row w A (l.flatMap T3.v)) (hn : l.length = n) (hx : n ≤ 9223372036854775807) :
    Gives Try.prog 25 #[.slice A n c, .int .i64 s] w (.bool (sights l s)) := by
  subst hn
  (unfold Gives; go_enter Try.func25, Try.ntmps25)
  go_wp2_with fail
  go_loopw [9] (fun i wr => ∃ (k : Nat), (∀ j, j < k → sokAt l j = true) ∧ k ≤ l.length ∧ i = .int .i64 ↑k ∧ Ext w wr) (fun i _ => (l.length - (intOf i).toNat))
  case atStart => exact ⟨0, by omega, by omega, rfl, Ext.refl _⟩
  case round =>
    obtain ⟨k, hk, hkn, rfl, he⟩ := hrel
    have HK := hid hk
    have HE := hid he
    obtain ⟨x, rfl⟩ := he.ex
    clear hk he
    by_cases hlt : k < l.length
    · obtain ⟨b, off, rfl, hc⟩ := hl.t3 hlt
      obtain ⟨c1, c2, c3⟩ := hc k (by omega)
      clear hc
      have he := HE.out
      cases hf : sok (at3 l k).a (at3 l k).b (at3 l k).c
      · go_wp2_with (go_at_call 27; refine (iSightingOk_any _ _ _ _).over.mono ?_; rintro e w' ⟨rfl, xw, rfl⟩)
        go_ret
        refine ⟨by rw [sights, allN_false hlt hf]; rfl, ?_⟩
        repeat (first | exact Ext.refl _ | refine Ext.alloc ?_ _ | assumption | refine Ext.over ?_ _ | refine Ext.drew ?_ | refine Ext.drewN ?_ _)
      · go_wp2_with (go_at_call 27; refine (iSightingOk_any _ _ _ _).over.mono ?_; rintro e w' ⟨rfl, xw, rfl⟩)
        go_roundw
        case rel =>
          refine ⟨k + 1, lt_succ_all HK.out hf, by omega, by go_num, ?_⟩
          repeat (first | exact Ext.refl _ | refine Ext.alloc ?_ _ | assumption | refine Ext.over ?_ _ | refine Ext.drew ?_ | refine Ext.drewN ?_ _)
        case measure => simp [intOf]; omega
    · have HA := hid (allN_true (fun j hj => HK.out j (by omega)) : allN l.length (sokAt l) = true)
      have he := HE.out
      by_cases h8 : (l.length : Int) ≤ 8
      · have H8 := hid (decide_eq_true (show l.length ≤ 8 by omega))
        go_wp2_with (go_at_call 22; refine (between_any _ _ _ _).over.mono ?_; rintro e w' ⟨rfl, xw, rfl⟩)
        go_ret
        refine ⟨by rw [sights, HA.out, H8.out]; rfl, ?_⟩
        repeat (first | exact Ext.refl _ | refine Ext.alloc ?_ _ | assumption | refine Ext.over ?_ _ | refine Ext.drew ?_ | refine Ext.drewN ?_ _)
      · have H8 := hid (decide_eq_false (show ¬ l.length ≤ 8 by omega))
        go_wp2_with (go_at_call 22; refine (between_any _ _ _ _).over.mono ?_; rintro e w' ⟨rfl, xw, rfl⟩)
        go_ret
        refine ⟨by rw [sights, HA.out, H8.out]; rfl, ?_⟩
        repeat (first | exact Ext.refl _ | refine Ext.alloc ?_ _ | assumption | refine Ext.over ?_ _ | refine Ext.drew ?_ | refine Ext.drewN ?_ _)
def cnt (S : Nat) : Nat → Int
  | 0 => 0
  | i + 1 => if S.testBit i then cnt S i + 1 else cnt S i
theorem cnt_le (S i : Nat) : 0 ≤ cnt S i ∧ cnt S i ≤ i := by
  induction i with
  | zero => simp [cnt]
  | succ i ih => unfold cnt; split <;> omega
/-- No one of the set's among the first k can be followed by i, or the other way round. -/
def offs (l : List T3) (s : Int) (S i k : Nat) : Bool := allN k (fun k => !S.testBit k || !cb l s i k)
def aparts (l : List T3) (s : Int) (S i : Nat) : Bool := allN i (fun i => !S.testBit i || offs l s S i l.length)
def mostTo (l : List T3) (s : Int) : Nat → Int
  | 0 => 0
  | S + 1 => if aparts l s S l.length then gmax (mostTo l s S) (cnt S l.length) else mostTo l s S
def most (l : List T3) (s : Int) : Int := if sights l s then mostTo l s (2 ^ l.length) else -1
theorem pow_small {n : Nat} (h : n ≤ 8) : wrap64 (2 ^ n) = ((2 ^ n : Nat) : Int) ∧ 2 ^ n ≤ 256 := by
  rcases (show n = 0 ∨ n = 1 ∨ n = 2 ∨ n = 3 ∨ n = 4 ∨ n = 5 ∨ n = 6 ∨ n = 7 ∨ n = 8 by omega) with rfl | rfl | rfl | rfl | rfl | rfl | rfl | rfl | rfl <;> exact ⟨IntWalk.wrap64_in _ (by decide), by decide⟩
set_option maxRecDepth 20000 in
theorem and_one : ∀ q, q < 256 → bits .and .i64 ((q : Nat) : Int) 1 = if q % 2 = 1 then 1 else 0 := by decide
theorem bit_of {S k : Nat} (h : S < 256) : bits .and .i64 ((S : Int) / 2 ^ k) 1 = if S.testBit k then 1 else 0 := by
  have e : ((S : Int) / 2 ^ k) = ((S / 2 ^ k : Nat) : Int) := by
    rw [Int.natCast_ediv, Int.natCast_pow]; rfl
  rw [e, and_one _ (Nat.lt_of_le_of_lt (Nat.div_le_self _ _) h), Nat.testBit_eq_decide_div_mod_eq]
  simp
theorem bit_no {S k : Nat} (h : S < 256) (hb : S.testBit k = false) : (bits .and .i64 ((S : Int) / 2 ^ k) 1 == 0) = true ∧ (bits .and .i64 ((S : Int) / 2 ^ k) 1 == 1) = false := by
  rw [bit_of h, hb]; exact ⟨rfl, rfl⟩
theorem bit_yes {S k : Nat} (h : S < 256) (hb : S.testBit k = true) : (bits .and .i64 ((S : Int) / 2 ^ k) 1 == 0) = false ∧ (bits .and .i64 ((S : Int) / 2 ^ k) 1 == 1) = true := by
  rw [bit_of h, hb]; exact ⟨rfl, rfl⟩
theorem allN_succ (n : Nat) (p : Nat → Bool) : allN (n + 1) p = (allN n p && p n) := by
  simp [allN, List.range_succ]
theorem aparts_no {l : List T3} {s : Int} {S k : Nat} (hb : S.testBit k = false) : aparts l s S (k + 1) = aparts l s S k := by
  unfold aparts; rw [allN_succ, hb]; simp
theorem aparts_yes {l : List T3} {s : Int} {S k : Nat} (hb : S.testBit k = true) : aparts l s S (k + 1) = (aparts l s S k && offs l s S k l.length) := by
  unfold aparts; rw [allN_succ, hb]; simp
theorem cnt_no {S k : Nat} (hb : S.testBit k = false) : cnt S (k + 1) = cnt S k := by rw [cnt, hb]; rfl
theorem cnt_yes {S k : Nat} (hb : S.testBit k = true) : cnt S (k + 1) = cnt S k + 1 := by rw [cnt, hb]; rfl
theorem offs_succ (l : List T3) (s : Int) (S i k : Nat) : offs l s S i (k + 1) = (offs l s S i k && (!S.testBit k || !cb l s i k)) := by unfold offs; rw [allN_succ]
theorem offs_next {l : List T3} {s : Int} {S k j : Nat} {x y : Bool} (h : (aparts l s S k && offs l s S k j) = x) (h2 : (!S.testBit j || !cb l s k j) = y) : (aparts l s S k && offs l s S k (j + 1)) = (x && y) := by
  rw [offs_succ, ← Bool.and_assoc, h, h2]
theorem mostTo_no {l : List T3} {s : Int} {S : Nat} (h : aparts l s S l.length = false) : mostTo l s (S + 1) = mostTo l s S := by rw [mostTo, h]; rfl
theorem mostTo_yes {l : List T3} {s : Int} {S : Nat} (h : aparts l s S l.length = true) : mostTo l s (S + 1) = gmax (mostTo l s S) (cnt S l.length) := by rw [mostTo, h]; rfl
theorem mostTo_le (l : List T3) (s : Int) (S : Nat) : 0 ≤ mostTo l s S ∧ mostTo l s S ≤ l.length := by
  induction S with
  | zero => simp [mostTo]
  | succ S ih =>
    have := cnt_le S l.length
    unfold mostTo gmax
    split
    · split <;> omega
    · exact ih
theorem most_yes {l : List T3} {s : Int} (h : sights l s = true) : most l s = mostTo l s (2 ^ l.length) := by rw [most, h]; rfl
theorem most_no {l : List T3} {s : Int} (h : sights l s = false) : most l s = -1 := by rw [most, h]; rfl
theorem iMostApart_any (A : Option Addr) (n c : Nat) (l : List T3) (s : Int) (w : World) (hl : Row w A (l.flatMap T3.v)) (hn : l.length = n) (hx : n ≤ 9223372036854775807) :
    Gives Try.prog 14 #[.slice A n c, .int .i64 s] w (.int .i64 (most l s)) := by
  subst hn
  cases hs : sights l s
  · have HM := hid (most_no hs)
    (unfold Gives; go_enter Try.func14, Try.ntmps14)
    go_wp2_with (go_at_call 25; refine (sightingsOk_any _ _ _ l _ _ (hl.ext (by repeat (first | exact Ext.refl _ | refine Ext.alloc ?_ _ | assumption | refine Ext.over ?_ _ | refine Ext.drew ?_ | refine Ext.drewN ?_ _))) rfl (by omega)).over.mono ?_; rintro e w' ⟨rfl, xw, rfl⟩)
    go_ret
    refine ⟨by rw [HM.out]; rfl, ?_⟩
    repeat (first | exact Ext.refl _ | refine Ext.alloc ?_ _ | assumption | refine Ext.over ?_ _ | refine Ext.drew ?_ | refine Ext.drewN ?_ _)
  · have h8 : l.length ≤ 8 := by
      unfold sights at hs
      simp only [Bool.and_eq_true, decide_eq_true_eq] at hs
      exact hs.2.1
    (unfold Gives; go_enter Try.func14, Try.ntmps14)
    go_wp2_with (go_at_call 25; refine (sightingsOk_any _ _ _ l _ _ (hl.ext (by repeat (first | exact Ext.refl _ | refine Ext.alloc ?_ _ | assumption | refine Ext.over ?_ _ | refine Ext.drew ?_ | refine Ext.drewN ?_ _))) rfl (by omega)).over.mono ?_; rintro e w' ⟨rfl, xw, rfl⟩)
    obtain ⟨hw, hP⟩ := pow_small h8
    generalize hP2 : 2 ^ l.length = P at hw hP
    go_loopw [5, 6] (fun o i wr => ∃ (S : Nat), S ≤ P ∧ i = .int .i64 ↑S ∧ o = .int .i64 (mostTo l s S) ∧ Ext w wr) (fun _ i _ => (P - (intOf i).toNat))
    case atStart => exact ⟨0, by omega, rfl, rfl, by repeat (first | exact Ext.refl _ | refine Ext.alloc ?_ _ | assumption | refine Ext.over ?_ _ | refine Ext.drew ?_ | refine Ext.drewN ?_ _)⟩
    case round =>
      obtain ⟨S, hS, rfl, rfl, he⟩ := hrel
      obtain ⟨x, rfl⟩ := he.ex
      by_cases hlt : S < P
      · have hlt2 : (S : Int) < wrap64 (2 ^ l.length) := by omega
        go_wp2_with fail
        go_loopw [7, 8, 24] (fun n a i wr => ∃ (k : Nat), k ≤ l.length ∧ i = .int .i64 ↑k ∧ n = .int .i64 (cnt S k) ∧ a = .bool (aparts l s S k) ∧ Ext w wr) (fun _ _ i _ => (l.length - (intOf i).toNat))
        case atStart => exact ⟨0, by omega, rfl, rfl, rfl, by repeat (first | exact Ext.refl _ | refine Ext.alloc ?_ _ | assumption | refine Ext.over ?_ _ | refine Ext.drew ?_ | refine Ext.drewN ?_ _)⟩
        case round =>
          obtain ⟨k, hk, rfl, rfl, rfl, he⟩ := hrel
          obtain ⟨y, rfl⟩ := he.ex
          by_cases hlk : k < l.length
          · cases hb : S.testBit k
            · obtain ⟨b0, b1⟩ := bit_no (k := k) (by omega) hb
              have HA := hid (aparts_no (l := l) (s := s) hb)
              have HC := hid (cnt_no hb)
              go_wp2_with fail
              go_roundw
              case rel =>
                refine ⟨k + 1, by omega, by go_num, by rw [HC.out], by rw [HA.out], ?_⟩
                repeat (first | exact Ext.refl _ | refine Ext.alloc ?_ _ | assumption | refine Ext.over ?_ _ | refine Ext.drew ?_ | refine Ext.drewN ?_ _)
              case measure => simp [intOf]; omega
            · obtain ⟨b0, b1⟩ := bit_yes (k := k) (by omega) hb
              have HA := hid (aparts_yes (l := l) (s := s) hb)
              have HC := hid (cnt_yes hb)
              have hcn := cnt_le S k
              go_wp2_with fail
              go_loopw [8, 36] (fun a i wr => ∃ (j : Nat), j ≤ l.length ∧ i = .int .i64 ↑j ∧ a = .bool (aparts l s S k && offs l s S k j) ∧ Ext (ovr w y) wr) (fun _ i _ => (l.length - (intOf i).toNat))
              case atStart => exact ⟨0, by omega, rfl, by simp [offs, allN], Ext.refl _⟩
              case round =>
                obtain ⟨j, hj, rfl, rfl, he2⟩ := hrel
                obtain ⟨z, rfl⟩ := he2.ex
                by_cases hlj : j < l.length
                · obtain ⟨b, off, rfl, hc⟩ := hl.t3 hlj
                  obtain ⟨c1, c2, c3⟩ := hc k hlk
                  obtain ⟨d1, d2, d3⟩ := hc j hlj
                  clear hc
                  cases ha : (aparts l s S k && offs l s S k j)
                  · have HX := hid (offs_next ha (rfl : (!S.testBit j || !cb l s k j) = _))
                    go_wp2_with fail
                    (refine wp_region_calm (by kernel_rfl) (by kernel_rfl) ?_; (repeat (go_big_quiet_step (fail))); refine wpQuiet_nil ?_; rintro w1 ⟨x1, rfl⟩)
                    go_wp2_with fail
                    go_roundw
                    case rel =>
                      refine ⟨j + 1, by omega, by go_num, by rw [HX.out]; rfl, ?_⟩
                      repeat (first | exact Ext.refl _ | refine Ext.alloc ?_ _ | assumption | refine Ext.over ?_ _ | refine Ext.drew ?_ | refine Ext.drewN ?_ _)
                    case measure => simp [intOf]; omega
                  · cases hbj : S.testBit j
                    · obtain ⟨e0, e1⟩ := bit_no (k := j) (by omega) hbj
                      have HX := hid (offs_next ha (show (!S.testBit j || !cb l s k j) = true by rw [hbj]; rfl))
                      go_wp2_with fail
                      (refine wp_region_calm (by kernel_rfl) (by kernel_rfl) ?_; (repeat (go_big_quiet_step (fail))); refine wpQuiet_nil ?_; rintro w1 ⟨x1, rfl⟩)
                      go_wp2_with fail
                      go_roundw
                      case rel =>
                        refine ⟨j + 1, by omega, by go_num, by rw [HX.out]; rfl, ?_⟩
                        repeat (first | exact Ext.refl _ | refine Ext.alloc ?_ _ | assumption | refine Ext.over ?_ _ | refine Ext.drew ?_ | refine Ext.drewN ?_ _)
                      case measure => simp [intOf]; omega
                    · obtain ⟨e0, e1⟩ := bit_yes (k := j) (by omega) hbj
                      cases hcb : canBe (at3 l k).a (at3 l k).b (at3 l k).c (at3 l j).a (at3 l j).b (at3 l j).c s
                      · have HX := hid (offs_next ha (show (!S.testBit j || !cb l s k j) = true by rw [hbj, cb, hcb]; rfl))
                        go_wp2_with fail
                        (refine wp_region_calm (by kernel_rfl) (by kernel_rfl) ?_; (repeat (go_big_quiet_step ((go_at_call 13; exact (iCanBeSame_any _ _ _ _ _ _ _ _).calm)))); refine wpQuiet_nil ?_; rintro w1 ⟨x1, rfl⟩)
                        go_wp2_with fail
                        go_roundw
                        case rel =>
                          refine ⟨j + 1, by omega, by go_num, by rw [HX.out]; rfl, ?_⟩
                          repeat (first | exact Ext.refl _ | refine Ext.alloc ?_ _ | assumption | refine Ext.over ?_ _ | refine Ext.drew ?_ | refine Ext.drewN ?_ _)
                        case measure => simp [intOf]; omega
                      · have HX := hid (offs_next ha (show (!S.testBit j || !cb l s k j) = false by rw [hbj, cb, hcb]; rfl))
                        go_wp2_with fail
                        (refine wp_region_calm (by kernel_rfl) (by kernel_rfl) ?_; (repeat (go_big_quiet_step ((go_at_call 13; exact (iCanBeSame_any _ _ _ _ _ _ _ _).calm)))); refine wpQuiet_nil ?_; rintro w1 ⟨x1, rfl⟩)
                        go_wp2_with fail
                        go_roundw
                        case rel =>
                          refine ⟨j + 1, by omega, by go_num, by rw [HX.out]; rfl, ?_⟩
                          repeat (first | exact Ext.refl _ | refine Ext.alloc ?_ _ | assumption | refine Ext.over ?_ _ | refine Ext.drew ?_ | refine Ext.drewN ?_ _)
                        case measure => simp [intOf]; omega
                · obtain rfl : j = l.length := by omega
                  go_wp2_with fail
                  go_roundw
                  case rel =>
                    refine ⟨k + 1, by omega, by go_num, by rw [HC.out], by rw [HA.out], ?_⟩
                    repeat (first | exact Ext.refl _ | refine Ext.alloc ?_ _ | assumption | refine Ext.over ?_ _ | refine Ext.drew ?_ | refine Ext.drewN ?_ _)
                  case measure => simp [intOf]; omega
          · obtain rfl : k = l.length := by omega
            cases ha : aparts l s S l.length
            · have HM := hid (mostTo_no ha)
              go_wp2_with fail
              go_roundw
              case rel =>
                refine ⟨S + 1, by omega, by go_num, by rw [HM.out], ?_⟩
                repeat (first | exact Ext.refl _ | refine Ext.alloc ?_ _ | assumption | refine Ext.over ?_ _ | refine Ext.drew ?_ | refine Ext.drewN ?_ _)
              case measure => simp [intOf]; omega
            · have HM := hid (mostTo_yes ha)
              go_wp2_with fail
              go_roundw
              case rel =>
                refine ⟨S + 1, by omega, by go_num, by rw [HM.out]; rfl, ?_⟩
                repeat (first | exact Ext.refl _ | refine Ext.alloc ?_ _ | assumption | refine Ext.over ?_ _ | refine Ext.drew ?_ | refine Ext.drewN ?_ _)
              case measure => simp [intOf]; omega
      · have hlt2 : ¬ (S : Int) < wrap64 (2 ^ l.length) := by omega
        have HM := hid (most_yes hs)
        obtain rfl : S = P := by omega
        go_wp2_with fail
        go_ret
        refine ⟨by rw [HM.out, hP2]; rfl, ?_⟩
        repeat (first | exact Ext.refl _ | refine Ext.alloc ?_ _ | assumption | refine Ext.over ?_ _ | refine Ext.drew ?_ | refine Ext.drewN ?_ _)

/-! ### The reference's MostApart -/
def pr (l : List T3) (s : Int) (S a b : Nat) : Bool := allN b (fun b => !(S.testBit b && (cb l s a b || cb l s b a)))
def prs (l : List T3) (s : Int) (S a : Nat) : Bool := allN a (fun a => !S.testBit a || pr l s S a a)
theorem cb_self (l : List T3) (s : Int) (a : Nat) : cb l s a a = false := by
  unfold cb canBe
  rw [decide_eq_false (Int.lt_irrefl _)]
  simp
theorem prs_all (l : List T3) (s : Int) (S : Nat) : prs l s S l.length = aparts l s S l.length := by
  rw [Bool.eq_iff_iff]
  unfold prs aparts pr offs
  simp only [allN_iff, Bool.or_eq_true, Bool.not_eq_true', Bool.and_eq_false_imp, Bool.or_eq_false_iff]
  constructor
  · intro h i hi
    cases hb : S.testBit i
    · exact .inl rfl
    refine .inr fun k hk => ?_
    cases hc : S.testBit k
    · exact .inl rfl
    refine .inr ?_
    rcases Nat.lt_trichotomy k i with h1 | h1 | h1
    · rcases h i hi with h2 | h2
      · rw [hb] at h2; cases h2
      · exact (h2 k h1 hc).1
    · subst h1; exact cb_self l s k
    · rcases h k hk with h2 | h2
      · rw [hc] at h2; cases h2
      · exact (h2 i h1 hb).2
  · intro h a ha
    cases hb : S.testBit a
    · exact .inl rfl
    refine .inr fun b hbl hc => ?_
    constructor
    · rcases h a ha with h2 | h2
      · rw [hb] at h2; cases h2
      · rcases h2 b (by omega) with h3 | h3
        · rw [hc] at h3; cases h3
        · exact h3
    · rcases h b (by omega) with h2 | h2
      · rw [hc] at h2; cases h2
      · rcases h2 a (by omega) with h3 | h3
        · rw [hb] at h3; cases h3
        · exact h3
theorem prs_false {l : List T3} {s : Int} {S a : Nat} (h : prs l s S a = false) (ha : a ≤ l.length) : aparts l s S l.length = false := by
  rw [← prs_all]
  cases h2 : prs l s S l.length
  · rfl
  · unfold prs at h2 h
    rw [allN_iff] at h2
    rw [allN_true (fun j hj => h2 j (by omega))] at h
    cases h
theorem prs_no {l : List T3} {s : Int} {S k : Nat} (hb : S.testBit k = false) : prs l s S (k + 1) = prs l s S k := by
  unfold prs; rw [allN_succ, hb]; simp
theorem prs_yes {l : List T3} {s : Int} {S k : Nat} (hb : S.testBit k = true) (h : prs l s S k = true) : prs l s S (k + 1) = pr l s S k k := by
  unfold prs at *; rw [allN_succ, hb, h]; simp
theorem pr_no {l : List T3} {s : Int} {S a b : Nat} (h : (S.testBit b && (cb l s a b || cb l s b a)) = false) : pr l s S a (b + 1) = pr l s S a b := by
  unfold pr; rw [allN_succ, h]; simp
theorem pr_yes {l : List T3} {s : Int} {S a b : Nat} (h : (S.testBit b && (cb l s a b || cb l s b a)) = true) : pr l s S a (b + 1) = false := by
  unfold pr; rw [allN_succ, h]; simp
end Go.Proofs.Ytnjmhdlcmbpfpaa
