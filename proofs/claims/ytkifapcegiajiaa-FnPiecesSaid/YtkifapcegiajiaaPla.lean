/- Plain law: turns, points on ways, places in polygons: the program's rule and the reference's agree at small coordinates. No condition. -/
import Derived.Test.YtkifapcegiajiaaGeo
namespace Go.Proofs.Ytkifapcegiajiaa
open Go.RowKit
set_option linter.unusedVariables false

def turnP (a b c : T2) : Int := turnW a.a a.b b.a b.b c.a c.b
def onP (p a b : T2) : Bool := (turnP a b p == 0) && (btw p.a (min a.a b.a) (max a.a b.a) && btw p.b (min a.b b.b) (max a.b b.b))
def sgn (z : Int) : Int := if 0 < z then 1 else if z < 0 then -1 else 0
def oppo (x y : Int) : Bool := decide (wrap64 (sgn x * sgn y) < 0)
def crossP (a b c d : T2) : Bool := oppo (turnP a b c) (turnP a b d) && oppo (turnP c d a) (turnP c d b)
theorem crossP_symm (a b c d : T2) : crossP a b c d = crossP c d a b := by unfold crossP; rw [Bool.and_comm]
def nx (n i : Nat) : Nat := (i + 1) % n
theorem nx_lt {n i : Nat} (h : i < n) : nx n i < n := Nat.mod_lt _ (by omega)
def nxt (L : List T2) (i : Nat) : T2 := at2 L (nx L.length i)
def onAt (L : List T2) (p : T2) (i : Nat) : Bool := onP p (at2 L i) (nxt L i)
def fI (a b p : T2) : Bool := (decide (p.b < a.b) != decide (p.b < b.b)) && (decide (0 < turnP a b p) == decide (a.b < b.b))
def fS (a b p : T2) : Bool := (decide (a.b ≤ p.b) && decide (p.b < b.b) && decide (0 < turnP a b p)) || (decide (b.b ≤ p.b) && decide (p.b < a.b) && decide (turnP a b p < 0))
def flipI (L : List T2) (p : T2) (i : Nat) : Bool := fI (at2 L i) (nxt L i) p
def flipS (L : List T2) (p : T2) (i : Nat) : Bool := fS (at2 L i) (nxt L i) p
def parN (p : Nat → Bool) : Nat → Bool
  | 0 => false
  | k + 1 => xor (parN p k) (p k)
theorem parN_yes {p : Nat → Bool} {k : Nat} (h : p k = true) : parN p (k + 1) = !(parN p k) := by simp [parN, h]
theorem parN_no {p : Nat → Bool} {k : Nat} (h : p k = false) : parN p (k + 1) = parN p k := by simp [parN, h]
theorem parN_congr {p q : Nat → Bool} : ∀ n, (∀ j, j < n → p j = q j) → parN p n = parN q n
  | 0, _ => rfl
  | n + 1, h => by simp only [parN]; rw [parN_congr n (fun j hj => h j (by omega)), h n (by omega)]
theorem allN_congr {n : Nat} {p q : Nat → Bool} (h : ∀ j, j < n → p j = q j) : allN n p = allN n q := by
  rw [Bool.eq_iff_iff, allN_iff, allN_iff]
  constructor
  · intro g j hj; rw [← h j hj]; exact g j hj
  · intro g j hj; rw [h j hj]; exact g j hj
def offW (L : List T2) (p : T2) : Bool := allN L.length fun i => !onAt L p i
def placeI (L : List T2) (p : T2) : Int := if offW L p then (if parN (flipI L p) L.length then 2 else 0) else 1
def holdsS (L : List T2) (p : T2) : Int := if offW L p then (if parN (flipS L p) L.length then 1 else -1) else 0

def small (p : T2) : Prop := (-200 ≤ p.a ∧ p.a ≤ 200) ∧ (-200 ≤ p.b ∧ p.b ≤ 200)
def turnZ (a b c : T2) : Int := (b.a - a.a) * (c.b - a.b) - (b.b - a.b) * (c.a - a.a)
theorem turn_small {a b c : T2} (ha : small a) (hb : small b) (hc : small c) : turnP a b c = turnZ a b c := by
  unfold small at ha hb hc
  unfold turnP turnW turnZ
  have h1 := mul_small (p := b.a - a.a) (q := c.b - a.b) (m := 400) (by omega) (by omega)
  have h2 := mul_small (p := b.b - a.b) (q := c.a - a.a) (m := 400) (by omega) (by omega)
  rw [IntWalk.wrap64_in (b.a - a.a) (by omega), IntWalk.wrap64_in (c.b - a.b) (by omega), IntWalk.wrap64_in (b.b - a.b) (by omega), IntWalk.wrap64_in (c.a - a.a) (by omega),
    IntWalk.wrap64_in ((b.a - a.a) * (c.b - a.b)) (by omega), IntWalk.wrap64_in ((b.b - a.b) * (c.a - a.a)) (by omega), IntWalk.wrap64_in _ (by omega)]
theorem small_pok {p : T2} (h : pokT p = true) : small p := by
  unfold pokT at h; rw [pok_iff] at h; unfold small; omega
theorem mid_of {u s d e : Int} (hu : 0 < u) (h0 : 0 ≤ s) (h1 : s ≤ u) (h : d * s = u * e) : min 0 d ≤ e ∧ e ≤ max 0 d := by
  rcases Int.le_total 0 d with hd | hd
  · have a1 : 0 ≤ d * s := Int.mul_nonneg hd h0
    have a2 : d * s ≤ d * u := Int.mul_le_mul_of_nonneg_left h1 hd
    rw [h] at a1 a2
    have b1 : 0 ≤ e := by
      rcases Int.lt_or_le e 0 with he | he
      · have := Int.mul_neg_of_pos_of_neg hu he; omega
      · exact he
    have b2 : e ≤ d := Int.le_of_mul_le_mul_left (by rw [Int.mul_comm u d]; exact a2) hu
    omega
  · have a1 : 0 ≤ (-d) * s := Int.mul_nonneg (by omega) h0
    have a2 : (-d) * s ≤ (-d) * u := Int.mul_le_mul_of_nonneg_left h1 (by omega)
    rw [Int.neg_mul] at a1 a2
    rw [Int.neg_mul] at a2
    rw [h] at a1 a2
    have b1 : e ≤ 0 := by
      rcases Int.lt_or_le 0 e with he | he
      · have := Int.mul_pos hu he; omega
      · exact he
    have b2 : d ≤ e := Int.le_of_mul_le_mul_left (a := u) (by rw [Int.mul_comm u d]; omega) hu
    omega
theorem on_of_zero {a b p : T2} (ht : turnZ a b p = 0) (h : (a.b ≤ p.b ∧ p.b < b.b) ∨ (b.b ≤ p.b ∧ p.b < a.b)) : (min a.a b.a ≤ p.a ∧ p.a ≤ max a.a b.a) ∧ (min a.b b.b ≤ p.b ∧ p.b ≤ max a.b b.b) := by
  unfold turnZ at ht
  refine ⟨?_, by omega⟩
  rcases h with h | h
  · have := mid_of (u := b.b - a.b) (s := p.b - a.b) (d := b.a - a.a) (e := p.a - a.a) (by omega) (by omega) (by omega) (by omega)
    omega
  · have e1 : (b.a - a.a) * (a.b - p.b) = (a.b - b.b) * (p.a - a.a) := by
      have x1 : (b.a - a.a) * (a.b - p.b) = -((b.a - a.a) * (p.b - a.b)) := by rw [← Int.mul_neg]; congr 1; omega
      have x2 : (a.b - b.b) * (p.a - a.a) = -((b.b - a.b) * (p.a - a.a)) := by rw [← Int.neg_mul]; congr 1; omega
      omega
    have := mid_of (u := a.b - b.b) (s := a.b - p.b) (d := b.a - a.a) (e := p.a - a.a) (by omega) (by omega) (by omega) e1
    omega
theorem flip_eq {a b p : T2} (ha : small a) (hb : small b) (hp : small p) (hn : onP p a b = false) : fI a b p = fS a b p := by
  have ht := turn_small ha hb hp
  by_cases h : (a.b ≤ p.b ∧ p.b < b.b) ∨ (b.b ≤ p.b ∧ p.b < a.b)
  · have hz : turnP a b p ≠ 0 := by
      intro hz
      have := on_of_zero (a := a) (b := b) (p := p) (by rw [← ht]; exact hz) h
      have : onP p a b = true := by
        unfold onP; rw [hz]
        simp only [Bool.and_eq_true, btw_iff]
        exact ⟨by decide, this.1, this.2⟩
      rw [this] at hn; cases hn
    unfold fI fS
    rcases h with h | h
    · rw [show decide (p.b < a.b) = false from decide_eq_false (by omega), show decide (p.b < b.b) = true from decide_eq_true (by omega), show decide (a.b < b.b) = true from decide_eq_true (by omega),
        show decide (a.b ≤ p.b) = true from decide_eq_true (by omega), show decide (b.b ≤ p.b) = false from decide_eq_false (by omega)]
      simp
    · rw [show decide (p.b < a.b) = true from decide_eq_true (by omega), show decide (p.b < b.b) = false from decide_eq_false (by omega), show decide (a.b < b.b) = false from decide_eq_false (by omega),
        show decide (a.b ≤ p.b) = false from decide_eq_false (by omega), show decide (b.b ≤ p.b) = true from decide_eq_true (by omega)]
      rcases Int.lt_or_le (turnP a b p) 0 with h1 | h1
      · rw [show decide (0 < turnP a b p) = false from decide_eq_false (by omega), show decide (turnP a b p < 0) = true from decide_eq_true h1]; rfl
      · rw [show decide (0 < turnP a b p) = true from decide_eq_true (by omega), show decide (turnP a b p < 0) = false from decide_eq_false (by omega)]; rfl
  · unfold fI fS
    have h1 : (decide (p.b < a.b) != decide (p.b < b.b)) = false := by
      by_cases x1 : p.b < a.b
      · rw [decide_eq_true x1, decide_eq_true (show p.b < b.b by omega)]; rfl
      · rw [decide_eq_false x1, decide_eq_false (show ¬ p.b < b.b by omega)]; rfl
    rw [h1, Bool.false_and]
    symm
    rw [Bool.or_eq_false_iff]
    constructor
    · rw [Bool.and_eq_false_iff]; left
      rw [← Bool.not_eq_true, Bool.and_eq_true, decide_eq_true_iff, decide_eq_true_iff]; omega
    · rw [Bool.and_eq_false_iff]; left
      rw [← Bool.not_eq_true, Bool.and_eq_true, decide_eq_true_iff, decide_eq_true_iff]; omega
theorem small_at {L : List T2} (h : ∀ j, j < L.length → small (at2 L j)) (j : Nat) : small (at2 L j) := by
  rcases Nat.lt_or_ge j L.length with h' | h'
  · exact h j h'
  · unfold at2; rw [List.getD_eq_getElem?_getD, List.getElem?_eq_none h']; exact ⟨⟨by decide, by decide⟩, ⟨by decide, by decide⟩⟩
theorem place_holds {L : List T2} {p : T2} (hL : ∀ j, j < L.length → small (at2 L j)) (hp : small p) : placeI L p = holdsS L p + 1 := by
  unfold placeI holdsS
  cases ho : offW L p
  · rfl
  · have hf : parN (flipI L p) L.length = parN (flipS L p) L.length := parN_congr _ fun j hj => by
      unfold offW at ho
      rw [allN_iff] at ho
      have := ho j hj
      exact flip_eq (small_at hL _) (small_at hL _) hp (by simpa [onAt] using this)
    rw [hf]
    cases parN (flipS L p) L.length <;> rfl
theorem place_range (L : List T2) (p : T2) : placeI L p = 0 ∨ placeI L p = 1 ∨ placeI L p = 2 := by
  unfold placeI; split <;> (try split) <;> simp
theorem holds_range (L : List T2) (p : T2) : holdsS L p = -1 ∨ holdsS L p = 0 ∨ holdsS L p = 1 := by
  unfold holdsS; split <;> (try split) <;> simp
end Go.Proofs.Ytkifapcegiajiaa
