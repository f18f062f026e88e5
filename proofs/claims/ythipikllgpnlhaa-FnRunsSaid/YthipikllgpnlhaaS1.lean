/- A list of rows that is sifted: some of its rows go into another list. -/
import Derived.Test.YthipikllgpnlhaaL3
namespace Go.Proofs.Ythipikllgpnlhaa
set_option maxRecDepth 100000
open Go Go.RowKit

/-- The rows of a list (blocks from a to b), and another outer slice beside them. -/
structure Sift (w : World) (lo a b : Nat) (rs : List Row) (o : Outer) (A : Option Addr) (c : Nat) (vs : List Value) : Prop where
  rows : Own w a b rs [o]
  out : w.ownsRow lo 24 1 (.slice A vs.length c) vs.length vs
  off : ∀ g, (Value.slice A vs.length c).ownBlock = some g → g < a ∨ b ≤ g

section
variable {w w' : World} {lo a b : Nat} {rs : List Row} {o : Outer} {A : Option Addr} {c : Nat} {vs : List Value}
theorem Sift.below (h : Sift w lo a b rs o A c vs) (hb : Below w.heap.size w w') : Sift w' lo a b rs o A c vs := ⟨h.rows.below hb, own_below h.out hb, h.off⟩
theorem Sift.dr (h : Sift w lo a b rs o A c vs) (hd : Dr w w') : Sift w' lo a b rs o A c vs := ⟨h.rows.dr hd, hd.own h.out, h.off⟩
theorem Sift.outN {n : Nat} (h : Sift w lo a b rs o A c vs) (hn : vs.length = n) : w.ownsRow lo 24 1 (.slice A n c) n vs := by subst hn; exact h.out
theorem Sift.grow {n : Nat} {u v1 : Value} {ob : Obj} (h : Sift w lo a b rs o A c vs) (hb : b ≤ w.heap.size) (hn : vs.length = n)
    (h1 : w'.ownsRow lo 24 1 v1 (n + 1) (vs ++ [u])) (hg : (w.alloc ob).grownBy w' (Value.slice A n c).ownBlock) (hat : v1.ownBlock = (Value.slice A n c).ownBlock ∨ v1.ownBlock = some (w.alloc ob).heap.size) :
    ∃ A1 c1, v1 = .slice A1 (n + 1) c1 ∧ Sift w' lo a b rs o A1 c1 (vs ++ [u]) ∧ w.grownBy w' (Value.slice A n c).ownBlock := by
  subst hn
  obtain ⟨A1, c1, rfl, _, _⟩ := own_shape h1
  have hg2 : w.grownBy w' (Value.slice A vs.length c).ownBlock := grown_trans (World.grownBy_alloc w ob _) hg
  refine ⟨A1, c1, rfl, ⟨?_, by simpa using h1, fun g hgg => ?_⟩, hg2⟩
  · rcases hv : (Value.slice A vs.length c).ownBlock with _ | g
    · rw [hv] at hg2
      exact h.rows.below (below_none hg2)
    · rw [hv] at hg2
      have hoff := h.off g hv
      exact h.rows.span (Span.of_grown (lo := g) (hi := g + 1) hg2 (fun q hq => by injection hq with hq; omega)) (by omega)
  · have hgg' : (Value.slice A1 (vs.length + 1) c1).ownBlock = some g := by simpa [Value.ownBlock] using hgg
    rcases hat with e | e
    · rw [e] at hgg'; exact h.off g hgg'
    · rw [e] at hgg'
      injection hgg' with hgg'
      simp at hgg'
      exact .inr (by omega)
theorem Sift.olim {n : Nat} (h : Sift w lo a b rs o A c vs) (hn : vs.length = n) : ∀ g, (Value.slice A n c).ownBlock = some g → lo ≤ g := fun g hg => by
  subst hn
  exact (h.out.lt g hg).1
theorem Sift.done {rs' : List Row} (h : Sift w lo a b rs o A c vs) (hv : vs = rs'.map Row.v) (hs : rs'.Sublist rs) (hlo : lo ≤ a) (hb : b ≤ w.heap.size) : Own w lo w.heap.size rs' [⟨A, c, rs'.map Row.v⟩] := by
  subst hv
  exact ((h.rows.bare.sub hs).wider hlo hb).with_ h.out (Nat.le_refl _)
/-- The list is there; the other one is the empty literal that lay before it. -/
theorem Sift.start {w0 : World} (h : Own w a b rs [o]) (ho : w0.ownsRow lo 24 1 (.slice A 0 c) 0 []) (hb : Below w0.heap.size w0 w) (ha : w0.heap.size ≤ a) : Sift w lo a b rs o A c [] :=
  ⟨h, own_below ho hb, fun g hg => .inl (by have := (ho.lt g hg).2; omega)⟩
end
end Go.Proofs.Ythipikllgpnlhaa
