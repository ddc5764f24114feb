/- Appending to one of two rows of the call's own. Conditions: the sizes that Go's own append asks. -/
import Derived.Test.YtkifapcegiajiaaPush
namespace Go.Proofs.Ytkifapcegiajiaa
open Go.RowKit
section
variable {P : Program} {w : World} {ops : Array Oper} {rest : List Oper} {o : Oper} {a : Act} {Q : Exit → Act → World → Prop}
theorem wpList_pushN (hgd : o.guard = none) (s x : Operand) (t : TypeId)
    (ho : o.op = .call { callee := .builtin .append, args := #[s, x], argTypes := #[t, t] })
    (e : TypeId) {z : Value} {size bytes : Nat} (ht : P.underlying t = some (.slice e)) (hinfo : (P.info? e).map (fun i => (i.zero, i.size, i.bytes)) = some (some z, size, bytes)) (hzs : z.cells.size = size) (hsz : 0 < size)
    (base : Nat) (A : Option Addr) (n c : Nat) (xs : List Value) (hs : a.eval s = .slice A n c) (w0 : World) (hown : w0.ownsRow base e size (.slice A n c) n xs) (he0 : Ext w0 w) (hbase : base ≤ w0.heap.size)
    (ad : Addr) (m c' : Nat) (news : List Value) (hx : a.eval x = .slice (some ad) m c') (hl : news.length = m * size) (hnews : ∀ j u, news[j]? = some u → w.cell? (ad.add j) = some u) (h1 : ∀ u ∈ news, u.oneCell' = true) (hm : 0 < m)
    (h63 : n + m ≤ 1000000000000) (hby : bytes ≤ 100)
    (h : ∀ A' c' w', w'.ownsRow base e size (.slice A' (n + m) c') (n + m) (xs ++ news) → w0.grownBy w' (Value.slice A n c).ownBlock → (∀ k, (Value.slice A' (n + m) c').ownBlock = some k → (Value.slice A n c).ownBlock = some k ∨ w0.heap.size ≤ k) → wpList P ops Q rest (a.put o.dst (.slice A' (n + m) c')) w') : wpList P ops Q (o :: rest) a w := by
  obtain ⟨i, hi, hz0, hz1, hz2⟩ := info_parts hinfo
  have hown' := own_ext hown he0
  have hs0 := he0.size
  refine wpList_append_lies w hgd s x t ho base e i z size bytes ht hi hz0 hz1 hz2 hzs hsz _ n xs hs hown' ad m c' news hx hl hnews h1 hm (by unfold maxLen; omega) ?_ (by omega) w.heap.size rfl ?_
  · have := Nat.mul_le_mul h63 hby; omega
  · intro g cap w' hw' hg hor _
    refine h _ _ w' hw' (grown_then (ext_grown he0 _) hg (.inl rfl)) (fun k hk => ?_)
    have hk' : g = k := by injection hk
    rcases hor with h2 | h2
    · exact .inl (by rw [← hk']; exact h2)
    · exact .inr (by omega)
end
end Go.Proofs.Ytkifapcegiajiaa
