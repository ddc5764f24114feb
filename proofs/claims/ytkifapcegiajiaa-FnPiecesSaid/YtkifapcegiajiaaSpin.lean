/- Plain law: a room that is turned, moved and begun elsewhere is a room. No condition. -/
import Derived.Test.YtkifapcegiajiaaSymm
namespace Go.Proofs.Ytkifapcegiajiaa
open Go.RowKit
set_option linter.unusedVariables false

def moveT (t dx : Int) (p : T2) : T2 := if t = 1 then ⟨-p.b + dx, p.a⟩ else if t = 2 then ⟨-p.a + dx, -p.b⟩ else ⟨p.a + dx, p.b⟩
/-- Coordinates within m. -/
def near (m : Int) (p : T2) : Prop := (-m ≤ p.a ∧ p.a ≤ m) ∧ (-m ≤ p.b ∧ p.b ≤ m)
theorem near_pok {m : Int} {p : T2} (h : near m p) (hm : m ≤ 40) : pokT p = true := by unfold near at h; unfold pokT; rw [pok_iff]; omega
theorem near_move {m t dx : Int} {p : T2} (h : near m p) (hd : -2 ≤ dx ∧ dx ≤ 2) : near (m + 2) (moveT t dx p) := by
  unfold near at *
  unfold moveT
  split
  · dsimp only; omega
  · split <;> (dsimp only; omega)
theorem turnZ_move (t dx : Int) (a b c : T2) : turnZ (moveT t dx a) (moveT t dx b) (moveT t dx c) = turnZ a b c := by
  unfold turnZ moveT
  split
  · dsimp only; grind
  · split <;> (dsimp only; grind)
theorem move_inj {t dx : Int} {p q : T2} : moveT t dx p = moveT t dx q ↔ p = q := by
  constructor
  · intro h
    unfold moveT at h
    cases p; cases q
    split at h
    · simp only [T2.mk.injEq] at *; omega
    · split at h <;> (simp only [T2.mk.injEq] at *; omega)
  · intro h; rw [h]
theorem inBox_move {t dx : Int} {p a b : T2} : inBox (moveT t dx p) (moveT t dx a) (moveT t dx b) ↔ inBox p a b := by
  unfold inBox moveT
  split
  · dsimp only; omega
  · split <;> (dsimp only; omega)
section
variable {t dx : Int} (hd : -2 ≤ dx ∧ dx ≤ 2)
include hd
theorem small_move {p : T2} (h : near 16 p) : small (moveT t dx p) := small_pok (near_pok (near_move h hd) (by omega))
theorem turnP_move {a b c : T2} (ha : near 16 a) (hb : near 16 b) (hc : near 16 c) : turnP (moveT t dx a) (moveT t dx b) (moveT t dx c) = turnP a b c := by
  rw [turn_small (small_move hd ha) (small_move hd hb) (small_move hd hc), turn_small (small_pok (near_pok ha (by omega))) (small_pok (near_pok hb (by omega))) (small_pok (near_pok hc (by omega))), turnZ_move]
theorem onP_move {p a b : T2} (hp : near 16 p) (ha : near 16 a) (hb : near 16 b) : onP (moveT t dx p) (moveT t dx a) (moveT t dx b) = onP p a b := by
  rw [Bool.eq_iff_iff, onP_small (small_move hd hp) (small_move hd ha) (small_move hd hb), onP_small (small_pok (near_pok hp (by omega))) (small_pok (near_pok ha (by omega))) (small_pok (near_pok hb (by omega))), turnZ_move, inBox_move]
theorem meet_move {a b c d : T2} (ha : near 16 a) (hb : near 16 b) (hc : near 16 c) (he : near 16 d) : meetP (moveT t dx a) (moveT t dx b) (moveT t dx c) (moveT t dx d) = meetP a b c d := by
  have hk : ∀ {p}, near 16 p → pokT (moveT t dx p) = pokT p := fun h => by rw [near_pok (near_move h hd) (by omega), near_pok h (by omega)]
  have hq : ∀ {p q : T2}, eqP (moveT t dx p) (moveT t dx q) = eqP p q := fun {p q} => by rw [Bool.eq_iff_iff, eqP_iff, eqP_iff, move_inj]
  unfold meetP meetQ wokP crossP
  rw [hk ha, hk hb, hk hc, hk he, hq, hq, turnP_move hd ha hb hc, turnP_move hd ha hb he, turnP_move hd hc he ha, turnP_move hd hc he hb, onP_move hd ha hc he, onP_move hd hb hc he, onP_move hd hc ha hb, onP_move hd he ha hb]
end
/-! Sums around. -/
def sumN (g : Nat → Int) : Nat → Int
  | 0 => 0
  | k + 1 => sumN g k + g k
theorem sum_split (g : Nat → Int) (a : Nat) : ∀ b, sumN g (a + b) = sumN g a + sumN (fun k => g (a + k)) b
  | 0 => by simp [sumN]
  | b + 1 => by
    have := sum_split g a b
    show sumN g (a + b) + g (a + b) = _ + (sumN _ b + g (a + b))
    omega
theorem sum_congr {g h : Nat → Int} : ∀ n, (∀ k, k < n → g k = h k) → sumN g n = sumN h n
  | 0, _ => rfl
  | n + 1, hh => by
    have := sum_congr n (fun k hk => hh k (by omega))
    simp only [sumN, this, hh n (by omega)]
theorem sum_spin (g : Nat → Int) {n f : Nat} (hf : f < n) : sumN (fun k => g ((f + k) % n)) n = sumN g n := by
  obtain ⟨r, rfl⟩ : ∃ r, n = r + f := ⟨n - f, by omega⟩
  rw [sum_split _ r f, show sumN g (r + f) = sumN g (f + r) by rw [Nat.add_comm], sum_split g f r]
  have h1 : sumN (fun k => g ((f + k) % (r + f))) r = sumN (fun k => g (f + k)) r := sum_congr r fun k hk => by rw [Nat.mod_eq_of_lt (by omega)]
  have h2 : sumN (fun k => g ((f + (r + k)) % (r + f))) f = sumN g f := sum_congr f fun k hk => by
    rw [show f + (r + k) = k + (r + f) by omega, Nat.add_mod_right, Nat.mod_eq_of_lt (by omega)]
  omega
theorem sum_sub (g h : Nat → Int) : ∀ n, sumN (fun k => g k - h k) n = sumN g n - sumN h n
  | 0 => rfl
  | n + 1 => by have := sum_sub g h n; simp only [sumN]; omega
theorem sum_add (g h : Nat → Int) : ∀ n, sumN (fun k => g k + h k) n = sumN g n + sumN h n
  | 0 => rfl
  | n + 1 => by have := sum_add g h n; simp only [sumN]; omega
theorem sum_mul (c : Int) (g : Nat → Int) : ∀ n, sumN (fun k => c * g k) n = c * sumN g n
  | 0 => by simp [sumN]
  | n + 1 => by have := sum_mul c g n; simp only [sumN, Int.mul_add]; omega
def detZ (p q : T2) : Int := p.a * q.b - p.b * q.a
def areaZ (L : List T2) : Int := sumN (fun k => detZ (at2 L k) (nxt L k)) L.length
def spin (n f k : Nat) : Nat := (f + k) % n
def spun (L : List T2) (f : Nat) (t dx : Int) : List T2 := (List.range L.length).map fun k => moveT t dx (at2 L (spin L.length f k))
theorem spun_len (L : List T2) (f : Nat) (t dx : Int) : (spun L f t dx).length = L.length := by simp [spun]
theorem spun_at {L : List T2} {f : Nat} {t dx : Int} {k : Nat} (hk : k < L.length) : at2 (spun L f t dx) k = moveT t dx (at2 L (spin L.length f k)) := by
  rw [at2_eq _ _ (by rw [spun_len]; exact hk)]
  simp [spun]
theorem spin_lt {n f k : Nat} (hn : 0 < n) : spin n f k < n := Nat.mod_lt _ hn
theorem spin_add {n f k j : Nat} : spin n f ((k + j) % n) = (spin n f k + j) % n := by
  unfold spin
  rw [Nat.add_mod, Nat.mod_mod, ← Nat.add_mod, Nat.mod_add_mod, Nat.add_assoc]
theorem spin_inj {n f k i : Nat} (hk : k < n) (hi : i < n) (h : spin n f k = spin n f i) : k = i := by
  unfold spin at h
  have h1 := Nat.div_add_mod (f + k) n
  have h2 := Nat.div_add_mod (f + i) n
  rw [h] at h1
  rcases Nat.lt_trichotomy ((f + k) / n) ((f + i) / n) with h3 | h3 | h3
  · have := Nat.mul_le_mul_left n (show (f + k) / n + 1 ≤ (f + i) / n from h3)
    rw [Nat.mul_add] at this
    omega
  · rw [h3] at h1; omega
  · have := Nat.mul_le_mul_left n (show (f + i) / n + 1 ≤ (f + k) / n from h3)
    rw [Nat.mul_add] at this
    omega
theorem det_move (t dx : Int) (p q : T2) : detZ (moveT t dx p) (moveT t dx q) = detZ p q + dx * ((moveT t dx q).b - (moveT t dx p).b) := by
  unfold detZ moveT
  split
  · dsimp only; grind
  · split <;> (dsimp only; grind)
theorem dblS_sum {L : List T2} (h : poks L = true) : ∀ k, k ≤ L.length → k ≤ 10 → dblS L k = sumN (fun k => detZ (at2 L k) (nxt L k)) k
  | 0, _, _ => rfl
  | k + 1, hk, h10 => by
    have ih := dblS_sum h k (by omega) (by omega)
    have hb := (dbl_eq h k (by omega) (by omega)).2
    have h1 := pok_bd (poks_at h (j := k) (by omega))
    have h2 := pok_bd (p := nxt L k) (poks_at h (nx_lt (by omega)))
    have m1 := mul_small (p := (at2 L k).a) (q := (nxt L k).b) (m := 40) h1.1 h2.2
    have m2 := mul_small (p := (at2 L k).b) (q := (nxt L k).a) (m := 40) h1.2 h2.1
    have e1 := IntWalk.wrap64_in ((at2 L k).a * (nxt L k).b) (by omega)
    have e2 := IntWalk.wrap64_in ((at2 L k).b * (nxt L k).a) (by omega)
    show wrap64 (wrap64 (dblS L k + wrap64 ((at2 L k).a * (nxt L k).b)) - wrap64 ((at2 L k).b * (nxt L k).a)) = sumN _ k + detZ (at2 L k) (nxt L k)
    rw [← ih]
    unfold detZ
    rw [e1, e2]
    clear ih
    generalize (at2 L k).a * (nxt L k).b = u at *
    generalize (at2 L k).b * (nxt L k).a = v at *
    generalize dblS L k = s at *
    rw [IntWalk.wrap64_in (s + u) (by omega), IntWalk.wrap64_in (s + u - v) (by omega)]
    omega
theorem room_spun {L : List T2} {f : Nat} {t dx : Int} (hr : roomS L = true) (hf : f < L.length) (hd : -2 ≤ dx ∧ dx ≤ 2) (hn : ∀ k, k < L.length → near 16 (at2 L k)) : roomS (spun L f t dx) = true ∧ ∀ k, k < (spun L f t dx).length → near 18 (at2 (spun L f t dx) k) := by
  have hr' := hr
  unfold roomS at hr'
  simp only [Bool.and_eq_true, decide_eq_true_eq] at hr'
  obtain ⟨⟨⟨h1, h2⟩, h3⟩, h4⟩ := hr'
  have hl0 : 0 < L.length := by omega
  have hlo := h1
  unfold lenOk at hlo
  rw [btw_iff] at hlo
  have hs : ∀ k, spin L.length f k < L.length := fun k => spin_lt hl0
  have hN := fun k => hn _ (hs k)
  have hnear : ∀ k, k < (spun L f t dx).length → near 18 (at2 (spun L f t dx) k) := fun k hk => by
    rw [spun_len] at hk
    rw [spun_at hk]
    have := near_move (t := t) (hN k) hd
    exact this
  have hnx : ∀ k, k < L.length → nxt (spun L f t dx) k = moveT t dx (nxt L (spin L.length f k)) := fun k hk => by
    unfold nxt
    rw [spun_len, spun_at (nx_lt hk)]
    congr 2
    exact spin_add
  have hNx := fun k (hk : k < L.length) => hn _ (nx_lt (n := L.length) (hs k))
  have hpk : poks (spun L f t dx) = true := by
    unfold poks
    rw [allN_iff]
    exact fun k hk => near_pok (hnear k hk) (by omega)
  have hmeet : ∀ k i, k < L.length → i < L.length → meetA (spun L f t dx) k i = meetA L (spin L.length f k) (spin L.length f i) := fun k i hk hi => by
    unfold meetA
    rw [spun_at hk, spun_at hi, hnx k hk, hnx i hi]
    exact meet_move hd (hN k) (hNx k hk) (hN i) (hNx i hi)
  have hrow : allN (spun L f t dx).length (rowS (spun L f t dx)) = true := by
    rw [spun_len, allN_iff]
    intro k hk
    have h5 := allN_iff.1 h3 _ (hs k)
    unfold rowS at h5 ⊢
    simp only [Bool.and_eq_true, Bool.not_eq_true'] at h5 ⊢
    refine ⟨?_, ?_⟩
    · rw [← h5.1]
      unfold bend
      rw [spun_len, spun_at hk, hnx k hk, spun_at (show nx2 L.length k < L.length from Nat.mod_lt _ hl0)]
      have e : spin L.length f (nx2 L.length k) = nx2 L.length (spin L.length f k) := spin_add
      rw [e]
      congr 1
      exact turnP_move hd (hN k) (hNx k hk) (hn _ (Nat.mod_lt _ hl0))
    · rw [spun_len, allN_iff]
      intro i hi
      have h6 := allN_iff.1 h5.2 _ (hs i)
      unfold pairS at h6 ⊢
      rw [spun_len, hmeet k i hk hi]
      by_cases e1 : i = k
      · rw [beq_iff_eq.2 e1]; rfl
      by_cases e2 : nx L.length i = k
      · rw [beq_iff_eq.2 e2]; simp
      by_cases e3 : nx L.length k = i
      · rw [beq_iff_eq.2 e3]; simp
      have s1 : (spin L.length f i == spin L.length f k) = false := beq_eq_false_iff_ne.2 fun e => e1 (spin_inj hi hk e)
      have s2 : (nx L.length (spin L.length f i) == spin L.length f k) = false := beq_eq_false_iff_ne.2 fun e => e2 (spin_inj (nx_lt hi) hk ((spin_add (n := L.length) (f := f) (k := i) (j := 1)).trans e))
      have s3 : (nx L.length (spin L.length f k) == spin L.length f i) = false := beq_eq_false_iff_ne.2 fun e => e3 (spin_inj (nx_lt hk) hi ((spin_add (n := L.length) (f := f) (k := k) (j := 1)).trans e))
      rw [s1, s2, s3] at h6
      simp only [Bool.false_or] at h6
      rw [h6]; simp
  have harea : dblS (spun L f t dx) (spun L f t dx).length = dblS L L.length := by
    rw [dblS_sum hpk _ (Nat.le_refl _) (by rw [spun_len]; omega), dblS_sum h2 _ (Nat.le_refl _) (by omega), spun_len]
    have e1 : sumN (fun k => detZ (at2 (spun L f t dx) k) (nxt (spun L f t dx) k)) L.length = sumN (fun k => detZ (at2 L (spin L.length f k)) (nxt L (spin L.length f k)) + dx * ((moveT t dx (nxt L (spin L.length f k))).b - (moveT t dx (at2 L (spin L.length f k))).b)) L.length := sum_congr _ fun k hk => by rw [spun_at hk, hnx k hk, det_move]
    rw [e1, sum_add, sum_mul, sum_sub]
    have e2 := sum_spin (fun k => detZ (at2 L k) (nxt L k)) hf
    have e3 := sum_spin (fun k => (moveT t dx (nxt L k)).b) hf
    have e4 := sum_spin (fun k => (moveT t dx (at2 L k)).b) hf
    have e5 : sumN (fun k => (moveT t dx (nxt L k)).b) L.length = sumN (fun k => (moveT t dx (at2 L k)).b) L.length := by
      by_cases h1 : 1 < L.length
      · have := sum_spin (fun k => (moveT t dx (at2 L k)).b) h1
        rw [← this]
        exact sum_congr _ fun k hk => by unfold nxt nx; rw [Nat.add_comm]
      · omega
    show sumN (fun k => detZ (at2 L ((f + k) % L.length)) (nxt L ((f + k) % L.length))) L.length + dx * (sumN (fun k => (moveT t dx (nxt L ((f + k) % L.length))).b) L.length - sumN (fun k => (moveT t dx (at2 L ((f + k) % L.length))).b) L.length) = _
    rw [e2, e3, e4, e5, Int.sub_self, Int.mul_zero, Int.add_zero]
  refine ⟨?_, hnear⟩
  unfold roomS
  rw [hpk, hrow, harea, decide_eq_true h4]
  unfold lenOk
  rw [spun_len]
  show (lenOk L && true && true && true) = true
  rw [h1]; rfl
end Go.Proofs.Ytkifapcegiajiaa
