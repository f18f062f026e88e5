/- ConsecutiveOf, program and reference. -/
import Derived.Test.YtodokdddcikhdaaDoorR2
import Derived.Test.YtodokdddcikhdaaDoorQ1
namespace Go.Proofs.YtodokdddcikhdaaDoor
set_option maxRecDepth 100000
open Go Go.RowKit

/-- A call's result: a pattern with joined places of its own, and a truth value. -/
def RetNb (w : World) (xs ys : List Int) (b : Bool) (e : Ending) (w' : World) : Prop :=
  ∃ A B c k, e = .returned (.tuple #[.agg #[.slice A xs.length c, .slice B ys.length k], .bool b]) ∧ Own w' w.heap.size w'.heap.size [⟨A, c, xs⟩, ⟨B, k, ys⟩] [] ∧ Below w.heap.size w w'
theorem own_nilrow (w : World) (lo hi : Nat) : Own w lo hi [⟨none, 0, []⟩, ⟨none, 0, []⟩] [] := by
  refine ⟨fun r hr => ?_, fun r hr g hg => ?_, ?_, fun _ ho => (List.not_mem_nil ho).elim, fun _ ho => (List.not_mem_nil ho).elim⟩
  · have : r = ⟨none, 0, []⟩ := by simpa using hr
    subst this; exact ⟨rfl, .inl ⟨rfl, rfl⟩⟩
  · have : r = ⟨none, 0, []⟩ := by simpa using hr
    subst this; cases hg
  · simp [Row.v, Value.ownBlock]
theorem Own.two {w w1 : World} {A B : Option Addr} {c k lo hi : Nat} {xs ys : List Int} (h : w1.ownsRow lo 3 1 (.slice A xs.length c) xs.length (xs.map (Value.int .i64))) (h' : w.ownsRow w1.heap.size 3 1 (.slice B ys.length k) ys.length (ys.map (Value.int .i64)))
    (hb : Below w1.heap.size w1 w) (hh : w.heap.size ≤ hi) (hl : lo ≤ w1.heap.size) : Own w lo hi [⟨A, c, xs⟩, ⟨B, k, ys⟩] [] :=
  (((Own.one h (Nat.le_refl _)).below hb).app (Own.one h' (Nat.le_refl _)) hl hb.size).wider (Nat.le_refl _) hh

end Go.Proofs.YtodokdddcikhdaaDoor
