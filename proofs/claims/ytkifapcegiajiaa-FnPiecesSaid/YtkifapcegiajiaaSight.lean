/- Plain law: valid rooms, sight: the cuts of a way in order of distance, and pairs of cuts without another one between, are the same. No condition. -/
import Derived.Test.YtkifapcegiajiaaPla
namespace Go.Proofs.Ytkifapcegiajiaa
open Go.RowKit
set_option linter.unusedVariables false

def eqP (p q : T2) : Bool := (p.a == q.a) && (p.b == q.b)
theorem eqP_iff {p q : T2} : eqP p q = true ↔ p = q := by
  unfold eqP; rw [Bool.and_eq_true, beq_iff_eq, beq_iff_eq]
  constructor
  · rintro ⟨h1, h2⟩; cases p; cases q; simp_all
  · rintro rfl; exact ⟨rfl, rfl⟩
def wokP (a b : T2) : Bool := pokT a && pokT b && !eqP a b
def meetQ (a b c d : T2) : Bool := crossP a b c d || onP a c d || onP b c d || onP c a b || onP d a b
def meetP (a b c d : T2) : Bool := wokP a b && wokP c d && meetQ a b c d
theorem meetQ_symm (a b c d : T2) : meetQ a b c d = meetQ c d a b := by
  unfold meetQ; rw [crossP_symm a b c d]
  cases crossP c d a b <;> cases onP a c d <;> cases onP b c d <;> cases onP c a b <;> cases onP d a b <;> rfl
theorem meetP_symm (a b c d : T2) : meetP a b c d = meetP c d a b := by
  unfold meetP; rw [meetQ_symm a b c d, Bool.and_comm (wokP a b)]
def nx2 (n i : Nat) : Nat := (i + 2) % n
def bend (L : List T2) (i : Nat) : Bool := turnP (at2 L i) (nxt L i) (at2 L (nx2 L.length i)) == 0
def meetA (L : List T2) (i k : Nat) : Bool := meetP (at2 L i) (nxt L i) (at2 L k) (nxt L k)
def pairI (L : List T2) (i k : Nat) : Bool := decide (k < i + 2) || (nx L.length k == i) || !meetA L i k
def pairS (L : List T2) (k i : Nat) : Bool := (i == k) || (nx L.length i == k) || (nx L.length k == i) || !meetA L k i
def rowI (L : List T2) (i : Nat) : Bool := !bend L i && allN L.length (pairI L i)
def rowS (L : List T2) (k : Nat) : Bool := !bend L k && allN L.length (pairS L k)
def det (p q : T2) : Int := wrap64 (wrap64 (p.a * q.b) - wrap64 (p.b * q.a))
def dblI (L : List T2) : Nat → Int
  | 0 => 0
  | k + 1 => wrap64 (dblI L k + det (at2 L k) (nxt L k))
def dblS (L : List T2) : Nat → Int
  | 0 => 0
  | k + 1 => wrap64 (wrap64 (dblS L k + wrap64 ((at2 L k).a * (nxt L k).b)) - wrap64 ((at2 L k).b * (nxt L k).a))
def lenOk (L : List T2) : Bool := btw L.length 3 10
def roomI (L : List T2) : Bool := lenOk L && poks L && allN L.length (rowI L) && decide (0 < dblI L L.length)
def roomS (L : List T2) : Bool := lenOk L && poks L && allN L.length (rowS L) && decide (0 < dblS L L.length)
theorem poks_at {L : List T2} (h : poks L = true) {j : Nat} (hj : j < L.length) : pokT (at2 L j) = true := by
  unfold poks at h; rw [allN_iff] at h; exact h j hj
theorem poks_small {L : List T2} (h : poks L = true) (j : Nat) (hj : j < L.length) : small (at2 L j) := small_pok (poks_at h hj)
theorem dbl_eq {L : List T2} (h : poks L = true) : ∀ k, k ≤ L.length → k ≤ 10 → dblI L k = dblS L k ∧ -(3200 * (k : Int)) ≤ dblS L k ∧ dblS L k ≤ 3200 * (k : Int)
  | 0, _, _ => ⟨rfl, by simp [dblS], by simp [dblS]⟩
  | k + 1, hk, h10 => by
    obtain ⟨h1, h2, h3⟩ := dbl_eq h k (by omega) (by omega)
    have p1 := poks_at h (j := k) (by omega)
    have p2 := poks_at h (j := nx L.length k) (nx_lt (by omega))
    unfold pokT at p1 p2
    rw [pok_iff] at p1 p2
    have m1 := mul_small (p := (at2 L k).a) (q := (nxt L k).b) (m := 40) p1.1 p2.2
    have m2 := mul_small (p := (at2 L k).b) (q := (nxt L k).a) (m := 40) p1.2 p2.1
    have e1 := IntWalk.wrap64_in ((at2 L k).a * (nxt L k).b) (by omega)
    have e2 := IntWalk.wrap64_in ((at2 L k).b * (nxt L k).a) (by omega)
    simp only [dblI, dblS, det]
    rw [h1, e1, e2]
    generalize (at2 L k).a * (nxt L k).b = u at *
    generalize (at2 L k).b * (nxt L k).a = v at *
    generalize dblS L k = s at *
    rw [IntWalk.wrap64_in (u - v) (by omega), IntWalk.wrap64_in (s + u) (by omega), IntWalk.wrap64_in (s + (u - v)) (by omega), IntWalk.wrap64_in (s + u - v) (by omega)]
    push_cast
    refine ⟨by omega, by omega, by omega⟩
theorem row_pairs {L : List T2} : allN L.length (rowI L) = allN L.length (rowS L) := by
  rw [Bool.eq_iff_iff, allN_iff, allN_iff]
  have hnx : ∀ i, i + 1 < L.length → nx L.length i = i + 1 := fun i h => Nat.mod_eq_of_lt h
  constructor
  · intro h k hk
    have hk' := h k hk
    unfold rowI at hk'
    unfold rowS
    rw [Bool.and_eq_true] at hk' ⊢
    refine ⟨hk'.1, ?_⟩
    rw [allN_iff]
    intro i hi
    unfold pairS
    cases e1 : i == k
    · cases e2 : nx L.length i == k
      · cases e3 : nx L.length k == i
        · rw [Bool.false_or, Bool.false_or, Bool.false_or]
          rw [beq_eq_false_iff_ne] at e1 e2 e3
          rcases Nat.lt_or_ge k i with h1 | h1
          · have := hk'.2
            rw [allN_iff] at this
            have := this i hi
            unfold pairI at this
            have h2 : k + 2 ≤ i := by
              rcases Nat.lt_or_ge (k + 1) i with h5 | h5
              · omega
              · exact absurd (hnx k (by omega)) (by omega)
            rw [decide_eq_false (by omega), beq_eq_false_iff_ne.2 e2, Bool.false_or, Bool.false_or] at this
            exact this
          · have hi' := h i hi
            unfold rowI at hi'
            rw [Bool.and_eq_true, allN_iff] at hi'
            have := hi'.2 k hk
            unfold pairI at this
            have h2 : i + 2 ≤ k := by
              rcases Nat.lt_or_ge (i + 1) k with h5 | h5
              · omega
              · exact absurd (hnx i (by omega)) (by omega)
            rw [decide_eq_false (by omega), beq_eq_false_iff_ne.2 e3, Bool.false_or, Bool.false_or] at this
            unfold meetA at this ⊢
            rw [meetP_symm]; exact this
        · simp
      · simp
    · simp
  · intro h i hi
    have hi' := h i hi
    unfold rowS at hi'
    unfold rowI
    rw [Bool.and_eq_true] at hi' ⊢
    refine ⟨hi'.1, ?_⟩
    rw [allN_iff]
    intro k hk
    have := hi'.2
    rw [allN_iff] at this
    have := this k hk
    unfold pairS at this
    unfold pairI
    rcases Nat.lt_or_ge k (i + 2) with h1 | h1
    · rw [decide_eq_true h1]; rfl
    · rw [beq_eq_false_iff_ne.2 (show k ≠ i by omega), beq_eq_false_iff_ne.2 (show nx L.length i ≠ k by rw [hnx i (by omega)]; omega), Bool.false_or] at this
      cases e2 : nx L.length k == i
      · rw [e2, Bool.false_or, Bool.false_or] at this; rw [this]; simp
      · simp
theorem room_eq (L : List T2) : roomI L = roomS L := by
  unfold roomI roomS
  rw [row_pairs]
  cases h1 : lenOk L
  · simp only [Bool.false_and]
  · cases h2 : poks L
    · simp only [Bool.and_false, Bool.false_and]
    · unfold lenOk at h1
      rw [btw_iff] at h1
      rw [(dbl_eq h2 L.length (Nat.le_refl _) (by omega)).1]
theorem turnP_aab (a c : T2) : turnP a a c = 0 := by
  unfold turnP turnW
  rw [show a.a - a.a = 0 by omega, show a.b - a.b = 0 by omega, IntWalk.wrap64_in 0 (by omega), Int.zero_mul, Int.zero_mul, IntWalk.wrap64_in 0 (by omega), Int.sub_self, IntWalk.wrap64_in 0 (by omega)]
theorem turnP_aba (a b : T2) : turnP a b a = 0 := by
  unfold turnP turnW
  rw [show a.a - a.a = 0 by omega, show a.b - a.b = 0 by omega, IntWalk.wrap64_in 0 (by omega), Int.mul_zero, Int.mul_zero, IntWalk.wrap64_in 0 (by omega), Int.sub_self, IntWalk.wrap64_in 0 (by omega)]
theorem onP_aab (a b : T2) : onP a a b = true := by
  unfold onP; rw [turnP_aba]
  simp only [Bool.and_eq_true, btw_iff]
  refine ⟨rfl, ⟨?_, ?_⟩, ?_, ?_⟩ <;> omega
/-- A valid room. -/
structure RoomP (L : List T2) : Prop where
  lo : 3 ≤ L.length
  hi : L.length ≤ 10
  pok : ∀ j, j < L.length → pokT (at2 L j) = true
  ne : ∀ i k, i < L.length → k < L.length → i ≠ k → at2 L i ≠ at2 L k
theorem roomP_of {L : List T2} (h : roomS L = true) : RoomP L := by
  unfold roomS at h
  simp only [Bool.and_eq_true] at h
  obtain ⟨⟨⟨h1, h2⟩, h3⟩, h4⟩ := h
  unfold lenOk at h1
  rw [btw_iff] at h1
  rw [allN_iff] at h3
  have hb : ∀ i, i < L.length → at2 L i ≠ nxt L i := by
    intro i hi e
    have := h3 i hi
    unfold rowS bend at this
    rw [← e, turnP_aab] at this
    simp at this
  refine ⟨by omega, by omega, fun j hj => poks_at h2 hj, fun i k hi hk hne e => ?_⟩
  by_cases e1 : nx L.length i = k
  · have := hb i hi; unfold nxt at this; rw [e1] at this; exact this e
  by_cases e2 : nx L.length k = i
  · have := hb k hk; unfold nxt at this; rw [e2] at this; exact this e.symm
  have := h3 i hi
  unfold rowS at this
  rw [Bool.and_eq_true, allN_iff] at this
  have := this.2 k hk
  unfold pairS at this
  rw [beq_eq_false_iff_ne.2 (fun e => hne e.symm), beq_eq_false_iff_ne.2 e2, beq_eq_false_iff_ne.2 e1, Bool.false_or, Bool.false_or, Bool.false_or] at this
  have hw : ∀ j, j < L.length → wokP (at2 L j) (nxt L j) = true := fun j hj => by
    unfold wokP
    rw [poks_at h2 hj, show pokT (nxt L j) = true from poks_at h2 (nx_lt hj)]
    cases e5 : eqP (at2 L j) (nxt L j)
    · rfl
    · exact absurd (eqP_iff.1 e5) (hb j hj)
  unfold meetA meetP meetQ at this
  rw [hw i hi, hw k hk, e, onP_aab] at this
  simp at this
theorem RoomP.small {L : List T2} (h : RoomP L) (j : Nat) (hj : j < L.length) : small (at2 L j) := small_pok (h.pok j hj)

/-! ### Sight -/
def dbl (p : T2) : T2 := ⟨wrap64 (2 * p.a), wrap64 (2 * p.b)⟩
def midP (p q : T2) : T2 := ⟨wrap64 (p.a + q.a), wrap64 (p.b + q.b)⟩
theorem midP_symm (p q : T2) : midP p q = midP q p := by unfold midP; rw [Int.add_comm p.a, Int.add_comm p.b]
def cutF (L : List T2) (a b : T2) (k : Nat) : Bool := (!eqP (at2 L k) a && !eqP (at2 L k) b) && onP (at2 L k) a b
def cutsL (L : List T2) (a b : T2) (k : Nat) : List T2 := a :: b :: ((List.range k).filter (cutF L a b)).map (at2 L)
theorem cutsL_zero (L : List T2) (a b : T2) : cutsL L a b 0 = [a, b] := rfl
theorem cutsL_yes {L : List T2} {a b : T2} {k : Nat} (h : cutF L a b k = true) : cutsL L a b (k + 1) = cutsL L a b k ++ [at2 L k] := by
  simp [cutsL, List.range_succ, List.filter_append, h]
theorem cutsL_no {L : List T2} {a b : T2} {k : Nat} (h : cutF L a b k = false) : cutsL L a b (k + 1) = cutsL L a b k := by
  simp [cutsL, List.range_succ, List.filter_append, h]
theorem cutsL_len (L : List T2) (a b : T2) (k : Nat) : 2 ≤ (cutsL L a b k).length ∧ (cutsL L a b k).length ≤ k + 2 := by
  have := List.length_filter_le (cutF L a b) (List.range k)
  simp [cutsL] at this ⊢
  omega
def noCross (L : List T2) (a b : T2) : Bool := allN L.length fun k => !crossP a b (at2 L k) (nxt L k)
def dblL (L : List T2) : List T2 := L.map dbl
def freeN (cs : List T2) (i k : Nat) : Bool := allN cs.length fun j => (j == i) || (j == k) || !onP (at2 cs j) (at2 cs i) (at2 cs k)
def pairC (L cs : List T2) (i k : Nat) : Bool := !(freeN cs i k && decide (holdsS (dblL L) (midP (at2 cs i) (at2 cs k)) < 0))
def pairsC (L cs : List T2) : Bool := allN cs.length fun i => allN i fun k => pairC L cs i k
def seesS (L : List T2) (a b : T2) : Bool := noCross L a b && pairsC L (cutsL L a b L.length)
def squareP (p q : T2) : Int := squareW p.a p.b q.a q.b
def stepsI (L ws : List T2) : Bool := allN (ws.length - 1) fun i => !(placeI (dblL L) (midP (at2 ws i) (at2 ws (i + 1))) == 0)

theorem adj_free {α : Type} (t : α → Int) (P : α → α → Prop) (hP : ∀ x y, P x y → P y x) {cs ws : List α} (hp : ws.Perm cs) (hnd : cs.Pairwise fun x y => t x ≠ t y) (hs : ws.Pairwise fun x y => t x ≤ t y) :
    (∀ i (h : i + 1 < ws.length), P ws[i] ws[i + 1]) ↔ ∀ i k (hi : i < cs.length) (hk : k < i), (∀ j (hj : j < cs.length), j ≠ i → j ≠ k → ¬ (min (t cs[i]) (t cs[k]) ≤ t cs[j] ∧ t cs[j] ≤ max (t cs[i]) (t cs[k]))) → P cs[i] cs[k] := by
  have hndw : ws.Pairwise fun x y => t x ≠ t y := (List.Perm.pairwise_iff (fun h e => h e.symm) hp).2 hnd
  have hlt : ∀ i j (hi : i < ws.length) (hj : j < ws.length), i < j → t ws[i] < t ws[j] := fun i j hi hj hij => by
    have h1 := List.pairwise_iff_getElem.1 hs i j hi hj hij
    have h2 := List.pairwise_iff_getElem.1 hndw i j hi hj hij
    omega
  have hneq : ∀ i j (hi : i < cs.length) (hj : j < cs.length), i ≠ j → t cs[i] ≠ t cs[j] := fun i j hi hj hij => by
    rcases Nat.lt_or_ge i j with h | h
    · exact List.pairwise_iff_getElem.1 hnd i j hi hj h
    · exact fun e => List.pairwise_iff_getElem.1 hnd j i hj hi (by omega) e.symm
  have M1 : (∀ i (h : i + 1 < ws.length), P ws[i] ws[i + 1]) ↔ ∀ x ∈ cs, ∀ y ∈ cs, t x < t y → (∀ z ∈ cs, ¬ (t x < t z ∧ t z < t y)) → P x y := by
    constructor
    · intro h x hx y hy hxy hz
      obtain ⟨i, hi, rfl⟩ := List.getElem_of_mem (hp.mem_iff.2 hx)
      obtain ⟨j, hj, rfl⟩ := List.getElem_of_mem (hp.mem_iff.2 hy)
      have hij : i < j := by
        rcases Nat.lt_or_ge i j with h' | h'
        · exact h'
        · rcases Nat.lt_or_ge j i with h2 | h2
          · have := hlt j i hj hi h2; omega
          · obtain rfl : i = j := by omega
            omega
      have hj1 : j = i + 1 := by
        rcases Nat.lt_or_ge (i + 1) j with h2 | h2
        · exact absurd ⟨hlt i (i + 1) hi (by omega) (by omega), hlt (i + 1) j (by omega) hj h2⟩ (hz _ (hp.mem_iff.1 (List.getElem_mem (by omega))))
        · omega
      subst hj1
      exact h i hj
    · intro h i hi
      refine h _ (hp.mem_iff.1 (List.getElem_mem _)) _ (hp.mem_iff.1 (List.getElem_mem _)) (hlt i (i + 1) (by omega) hi (by omega)) fun z hz ⟨h1, h2⟩ => ?_
      obtain ⟨m, hm, rfl⟩ := List.getElem_of_mem (hp.mem_iff.2 hz)
      rcases Nat.lt_or_ge m i with h5 | h5
      · have := hlt m i hm (by omega) h5; omega
      · rcases Nat.lt_or_ge i m with h6 | h6
        · rcases Nat.lt_or_ge (i + 1) m with h7 | h7
          · have := hlt (i + 1) m hi hm h7; omega
          · obtain rfl : m = i + 1 := by omega
            omega
        · obtain rfl : m = i := by omega
          omega
  rw [M1]
  constructor
  · intro h i k hi hk hf
    have hik := hneq i k hi (by omega) (by omega)
    rcases Int.lt_or_le (t cs[i]) (t cs[k]) with h1 | h1
    · refine h _ (List.getElem_mem _) _ (List.getElem_mem _) h1 fun z hz ⟨h2, h3⟩ => ?_
      obtain ⟨j, hj, rfl⟩ := List.getElem_of_mem hz
      exact hf j hj (by rintro rfl; omega) (by rintro rfl; omega) (by omega)
    · refine hP _ _ (h _ (List.getElem_mem _) _ (List.getElem_mem _) (by omega) fun z hz ⟨h2, h3⟩ => ?_)
      obtain ⟨j, hj, rfl⟩ := List.getElem_of_mem hz
      exact hf j hj (by rintro rfl; omega) (by rintro rfl; omega) (by omega)
  · intro h x hx y hy hxy hz
    obtain ⟨i, hi, rfl⟩ := List.getElem_of_mem hx
    obtain ⟨k, hk, rfl⟩ := List.getElem_of_mem hy
    rcases Nat.lt_or_ge k i with h1 | h1
    · refine h i k hi h1 fun j hj hji hjk hb => ?_
      have e1 := hneq j i hj hi hji
      have e2 := hneq j k hj hk hjk
      exact hz _ (List.getElem_mem hj) (by omega)
    · have hne : i ≠ k := by rintro rfl; omega
      refine hP _ _ (h k i hk (by omega) fun j hj hjk hji hb => ?_)
      have e1 := hneq j i hj hi hji
      have e2 := hneq j k hj hk hjk
      exact hz _ (List.getElem_mem hj) (by omega)

/-! ### Points on one straight way -/
def tt (a b c : T2) : Int := (b.a - a.a) * (c.a - a.a) + (b.b - a.b) * (c.b - a.b)
def dd2 (a b : T2) : Int := (b.a - a.a) * (b.a - a.a) + (b.b - a.b) * (b.b - a.b)
theorem sq_nonneg (x : Int) : 0 ≤ x * x := by
  rcases Int.le_total 0 x with h | h
  · exact Int.mul_nonneg h h
  · have := Int.mul_nonneg (a := -x) (b := -x) (by omega) (by omega); rwa [Int.neg_mul_neg] at this
theorem sq_pos {x : Int} (h : x ≠ 0) : 0 < x * x := by
  rcases Int.lt_or_le 0 x with h' | h'
  · exact Int.mul_pos h' h'
  · have := Int.mul_pos (a := -x) (b := -x) (by omega) (by omega); rwa [Int.neg_mul_neg] at this
theorem dd2_pos {a b : T2} (h : a ≠ b) : 0 < dd2 a b := by
  unfold dd2
  have h1 := sq_nonneg (b.a - a.a)
  have h2 := sq_nonneg (b.b - a.b)
  by_cases hx : b.a - a.a = 0
  · have hy : b.b - a.b ≠ 0 := fun hy => h (by cases a; cases b; simp at *; omega)
    have := sq_pos hy; omega
  · have := sq_pos hx; omega
theorem tt_a {a b c : T2} (h : turnZ a b c = 0) : dd2 a b * (c.a - a.a) = tt a b c * (b.a - a.a) ∧ dd2 a b * (c.b - a.b) = tt a b c * (b.b - a.b) := by
  unfold turnZ at h
  unfold dd2 tt
  generalize b.a - a.a = dx at *
  generalize b.b - a.b = dy at *
  generalize c.a - a.a = ex at *
  generalize c.b - a.b = ey at *
  have h' : dx * ey = dy * ex := by omega
  constructor
  · rw [Int.add_mul, Int.add_mul]
    have : dy * dy * ex = dy * ey * dx := by rw [Int.mul_assoc, ← h', Int.mul_comm dx ey, ← Int.mul_assoc]
    have e2 : dx * dx * ex = dx * ex * dx := by rw [Int.mul_assoc, Int.mul_assoc, Int.mul_comm dx ex]
    omega
  · rw [Int.add_mul, Int.add_mul]
    have : dx * dx * ey = dx * ex * dy := by rw [Int.mul_assoc, h', Int.mul_comm dy ex, ← Int.mul_assoc]
    have e2 : dy * dy * ey = dy * ey * dy := by rw [Int.mul_assoc, Int.mul_assoc, Int.mul_comm dy ey]
    omega
theorem tt_d {a b c d : T2} (hc : turnZ a b c = 0) (hd : turnZ a b d = 0) : dd2 a b * (c.a - d.a) = (tt a b c - tt a b d) * (b.a - a.a) ∧ dd2 a b * (c.b - d.b) = (tt a b c - tt a b d) * (b.b - a.b) := by
  have h1 := tt_a hc
  have h2 := tt_a hd
  rw [Int.sub_mul, Int.sub_mul, ← h1.1, ← h1.2, ← h2.1, ← h2.2, ← Int.mul_sub, ← Int.mul_sub]
  constructor
  · congr 1; omega
  · congr 1; omega
theorem sgn_lin {D e s d : Int} (hD : 0 < D) (h : D * e = s * d) : (0 < s → 0 < d → 0 < e) ∧ (0 < s → d < 0 → e < 0) ∧ (0 ≤ s → 0 ≤ d → 0 ≤ e) ∧ (0 ≤ s → d ≤ 0 → e ≤ 0) := by
  refine ⟨fun h1 h2 => ?_, fun h1 h2 => ?_, fun h1 h2 => ?_, fun h1 h2 => ?_⟩
  · have := Int.mul_pos h1 h2
    rcases Int.lt_or_le 0 e with he | he
    · exact he
    · have := Int.mul_nonneg (a := D) (b := -e) (by omega) (by omega); rw [Int.mul_neg] at this; omega
  · have := Int.mul_neg_of_pos_of_neg h1 h2
    rcases Int.lt_or_le e 0 with he | he
    · exact he
    · have := Int.mul_nonneg (a := D) (b := e) (by omega) (by omega); omega
  · have := Int.mul_nonneg h1 h2
    rcases Int.lt_or_le e 0 with he | he
    · have := Int.mul_neg_of_pos_of_neg hD he; omega
    · exact he
  · have := Int.mul_nonneg (a := s) (b := -d) h1 (by omega); rw [Int.mul_neg] at this
    rcases Int.lt_or_le 0 e with he | he
    · have := Int.mul_pos hD he; omega
    · exact he
theorem tt_inj {a b c d : T2} (hab : a ≠ b) (hc : turnZ a b c = 0) (hd : turnZ a b d = 0) (h : tt a b c = tt a b d) : c = d := by
  have h1 := tt_d hc hd
  have hD := dd2_pos hab
  rw [h, Int.sub_self, Int.zero_mul, Int.zero_mul] at h1
  have e1 : c.a - d.a = 0 := by rcases Int.mul_eq_zero.1 h1.1 with h | h <;> omega
  have e2 : c.b - d.b = 0 := by rcases Int.mul_eq_zero.1 h1.2 with h | h <;> omega
  cases c; cases d; simp at *; omega
def inBox (p q r : T2) : Prop := (min q.a r.a ≤ p.a ∧ p.a ≤ max q.a r.a) ∧ (min q.b r.b ≤ p.b ∧ p.b ≤ max q.b r.b)
theorem box_in {D p q r tp tq tr d : Int} (hD : 0 < D) (pq : D * (p - q) = (tp - tq) * d) (pr : D * (p - r) = (tp - tr) * d) (qp : D * (q - p) = (tq - tp) * d) (rp : D * (r - p) = (tr - tp) * d) (h : min tq tr ≤ tp ∧ tp ≤ max tq tr) : min q r ≤ p ∧ p ≤ max q r := by
  rcases Int.le_total 0 d with hd | hd <;> rcases Int.le_total tq tr with hh | hh
  · have h1 := (sgn_lin hD pq).2.2.1 (by omega) hd
    have h2 := (sgn_lin hD rp).2.2.1 (by omega) hd
    omega
  · have h1 := (sgn_lin hD pr).2.2.1 (by omega) hd
    have h2 := (sgn_lin hD qp).2.2.1 (by omega) hd
    omega
  · have h1 := (sgn_lin hD pq).2.2.2 (by omega) hd
    have h2 := (sgn_lin hD rp).2.2.2 (by omega) hd
    omega
  · have h1 := (sgn_lin hD pr).2.2.2 (by omega) hd
    have h2 := (sgn_lin hD qp).2.2.2 (by omega) hd
    omega
theorem box_out {D p q r tp tq tr d : Int} (hD : 0 < D) (h0 : d ≠ 0) (pq : D * (p - q) = (tp - tq) * d) (pr : D * (p - r) = (tp - tr) * d) (qp : D * (q - p) = (tq - tp) * d) (rp : D * (r - p) = (tr - tp) * d) (h : min q r ≤ p ∧ p ≤ max q r) : min tq tr ≤ tp ∧ tp ≤ max tq tr := by
  rcases Int.lt_or_le 0 d with hd | hd
  · constructor
    · rcases Int.lt_or_le tp (min tq tr) with h5 | h5
      · have h1 := (sgn_lin hD qp).1 (by omega) hd
        have h2 := (sgn_lin hD rp).1 (by omega) hd
        omega
      · exact h5
    · rcases Int.lt_or_le (max tq tr) tp with h5 | h5
      · have h1 := (sgn_lin hD pq).1 (by omega) hd
        have h2 := (sgn_lin hD pr).1 (by omega) hd
        omega
      · exact h5
  · have hd' : d < 0 := by omega
    constructor
    · rcases Int.lt_or_le tp (min tq tr) with h5 | h5
      · have h1 := (sgn_lin hD qp).2.1 (by omega) hd'
        have h2 := (sgn_lin hD rp).2.1 (by omega) hd'
        omega
      · exact h5
    · rcases Int.lt_or_le (max tq tr) tp with h5 | h5
      · have h1 := (sgn_lin hD pq).2.1 (by omega) hd'
        have h2 := (sgn_lin hD pr).2.1 (by omega) hd'
        omega
      · exact h5
theorem box_tt {a b p q r : T2} (hab : a ≠ b) (hp : turnZ a b p = 0) (hq : turnZ a b q = 0) (hr : turnZ a b r = 0) :
    inBox p q r ↔ min (tt a b q) (tt a b r) ≤ tt a b p ∧ tt a b p ≤ max (tt a b q) (tt a b r) := by
  have hD := dd2_pos hab
  have pq := tt_d hp hq
  have pr := tt_d hp hr
  have qp := tt_d hq hp
  have rp := tt_d hr hp
  unfold inBox
  constructor
  · rintro ⟨h1, h2⟩
    by_cases hx : b.a - a.a = 0
    · have hy : b.b - a.b ≠ 0 := by
        intro hy; exact hab (by cases a; cases b; simp only [T2.mk.injEq] at *; constructor <;> omega)
      exact box_out hD hy pq.2 pr.2 qp.2 rp.2 h2
    · exact box_out hD hx pq.1 pr.1 qp.1 rp.1 h1
  · intro h
    exact ⟨box_in hD pq.1 pr.1 qp.1 rp.1 h, box_in hD pq.2 pr.2 qp.2 rp.2 h⟩
theorem col_zero {a b p q r : T2} (hab : a ≠ b) (hp : turnZ a b p = 0) (hq : turnZ a b q = 0) (hr : turnZ a b r = 0) : turnZ q r p = 0 := by
  have hD := dd2_pos hab
  have rq := tt_d hr hq
  have pq := tt_d hp hq
  unfold turnZ
  generalize dd2 a b = D at *
  generalize tt a b p - tt a b q = s at *
  generalize tt a b r - tt a b q = u at *
  generalize b.a - a.a = dx at *
  generalize b.b - a.b = dy at *
  generalize r.a - q.a = ra at *
  generalize r.b - q.b = rb at *
  generalize p.a - q.a = pa at *
  generalize p.b - q.b = pb at *
  have e : (D * ra) * (D * pb) = (D * rb) * (D * pa) := by
    rw [rq.1, rq.2, pq.1, pq.2, Int.mul_assoc, Int.mul_assoc]
    congr 1
    rw [← Int.mul_assoc, ← Int.mul_assoc, Int.mul_comm dx s, Int.mul_comm dy s, Int.mul_assoc, Int.mul_assoc, Int.mul_comm dx dy]
  have e1 : (D * D) * (ra * pb) = (D * D) * (rb * pa) := by
    rw [show D * D * (ra * pb) = D * ra * (D * pb) by rw [Int.mul_assoc, Int.mul_assoc]; congr 1; rw [← Int.mul_assoc, ← Int.mul_assoc, Int.mul_comm D ra],
      show D * D * (rb * pa) = D * rb * (D * pa) by rw [Int.mul_assoc, Int.mul_assoc]; congr 1; rw [← Int.mul_assoc, ← Int.mul_assoc, Int.mul_comm D rb]]
    exact e
  have := Int.eq_of_mul_eq_mul_left (Int.ne_of_gt (Int.mul_pos hD hD)) e1
  omega
theorem onP_small {p a b : T2} (hp : small p) (ha : small a) (hb : small b) : onP p a b = true ↔ turnZ a b p = 0 ∧ inBox p a b := by
  unfold onP inBox
  rw [turn_small ha hb hp]
  simp only [Bool.and_eq_true, btw_iff, beq_iff_eq]
theorem tt_pos {a b c : T2} (h : inBox c a b) : 0 ≤ tt a b c := by
  unfold inBox at h
  unfold tt
  have h1 : 0 ≤ (b.a - a.a) * (c.a - a.a) := by
    rcases Int.le_total 0 (b.a - a.a) with hd | hd
    · exact Int.mul_nonneg hd (by omega)
    · have := Int.mul_nonneg (a := -(b.a - a.a)) (b := -(c.a - a.a)) (by omega) (by omega); rwa [Int.neg_mul_neg] at this
  have h2 : 0 ≤ (b.b - a.b) * (c.b - a.b) := by
    rcases Int.le_total 0 (b.b - a.b) with hd | hd
    · exact Int.mul_nonneg hd (by omega)
    · have := Int.mul_nonneg (a := -(b.b - a.b)) (b := -(c.b - a.b)) (by omega) (by omega); rwa [Int.neg_mul_neg] at this
  omega
def squareZ (p q : T2) : Int := (p.a - q.a) * (p.a - q.a) + (p.b - q.b) * (p.b - q.b)
theorem square_small {p q : T2} (hp : small p) (hq : small q) : squareP p q = squareZ p q ∧ 0 ≤ squareZ p q ∧ squareZ p q ≤ 320000 := by
  unfold small at hp hq
  unfold squareP squareW squareZ
  have h1 := mul_small (p := p.a - q.a) (q := p.a - q.a) (m := 400) (by omega) (by omega)
  have h2 := mul_small (p := p.b - q.b) (q := p.b - q.b) (m := 400) (by omega) (by omega)
  have h3 := sq_nonneg (p.a - q.a)
  have h4 := sq_nonneg (p.b - q.b)
  refine ⟨?_, by omega, by omega⟩
  rw [IntWalk.wrap64_in (p.a - q.a) (by omega), IntWalk.wrap64_in (p.b - q.b) (by omega), IntWalk.wrap64_in ((p.a - q.a) * (p.a - q.a)) (by omega), IntWalk.wrap64_in ((p.b - q.b) * (p.b - q.b)) (by omega), IntWalk.wrap64_in _ (by omega)]
theorem sq_tt {a b c : T2} (hab : a ≠ b) (h : turnZ a b c = 0) : dd2 a b * squareZ a c = tt a b c * tt a b c := by
  have hD := dd2_pos hab
  have h1 := tt_a h
  have e0 : squareZ a c = (c.a - a.a) * (c.a - a.a) + (c.b - a.b) * (c.b - a.b) := by
    unfold squareZ
    rw [show a.a - c.a = -(c.a - a.a) by omega, show a.b - c.b = -(c.b - a.b) by omega, Int.neg_mul_neg, Int.neg_mul_neg]
  have e1 : dd2 a b * (dd2 a b * squareZ a c) = dd2 a b * (tt a b c * tt a b c) := by
    have hd : dd2 a b = (b.a - a.a) * (b.a - a.a) + (b.b - a.b) * (b.b - a.b) := rfl
    rw [e0]
    generalize c.a - a.a = ex at *
    generalize c.b - a.b = ey at *
    generalize tt a b c = t at *
    generalize dd2 a b = D at *
    generalize b.a - a.a = dx at *
    generalize b.b - a.b = dy at *
    have x1 : D * (D * (ex * ex)) = t * t * (dx * dx) := by
      rw [show D * (D * (ex * ex)) = (D * ex) * (D * ex) by simp only [Int.mul_assoc, Int.mul_left_comm], h1.1]
      simp only [Int.mul_assoc, Int.mul_left_comm]
    have x2 : D * (D * (ey * ey)) = t * t * (dy * dy) := by
      rw [show D * (D * (ey * ey)) = (D * ey) * (D * ey) by simp only [Int.mul_assoc, Int.mul_left_comm], h1.2]
      simp only [Int.mul_assoc, Int.mul_left_comm]
    rw [Int.mul_add, Int.mul_add, x1, x2, ← Int.mul_add, ← hd, Int.mul_comm]
  exact Int.eq_of_mul_eq_mul_left (Int.ne_of_gt hD) e1
theorem tt_of_sq {a b c d : T2} (hab : a ≠ b) (hc : turnZ a b c = 0) (hd : turnZ a b d = 0) (h0 : inBox d a b) (h : squareZ a c ≤ squareZ a d) : tt a b c ≤ tt a b d := by
  have hD := dd2_pos hab
  have h1 := Int.mul_le_mul_of_nonneg_left h (Int.le_of_lt hD)
  rw [sq_tt hab hc, sq_tt hab hd] at h1
  have p := tt_pos h0
  generalize tt a b c = x at *
  generalize tt a b d = y at *
  rcases Int.lt_or_le y x with h2 | h2
  · have : y * y < x * x := by
      have q1 : y * y ≤ x * y := Int.mul_le_mul_of_nonneg_right (by omega) p
      have q2 : x * y < x * x := Int.mul_lt_mul_of_pos_left h2 (by omega)
      omega
    omega
  · exact h2
end Go.Proofs.Ytkifapcegiajiaa
