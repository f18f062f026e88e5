/- Contracts of MahonRow and EulerRow, program and reference. -/
import Derived.Test.YthkggnmfdlggbaaC2
import Derived.StillTailTactics
namespace Go.Proofs.Ythkggnmfdlggbaa
set_option maxRecDepth 100000
open Go Go.RowKit

theorem own_put {α : Type} {f : α → Value} {w : World} {base e g n cap : Nat} {xs : List α} (h : w.ownsRow base e 1 (.slice (some ⟨g, 0, none⟩) n cap) n (xs.map f)) (j : Nat) (hj : j < xs.length) (x : α) :
    w.cell? ⟨g, j, none⟩ = some (f xs[j]) ∧ w.frozen? ⟨g, j, none⟩ = false ∧ (w.setCell ⟨g, j, none⟩ (f x)).ownsRow base e 1 (.slice (some ⟨g, 0, none⟩) n cap) n ((xs.set j x).map f) := by
  have hl := own_len h
  simp only [List.length_map] at hl
  refine ⟨?_, h.frozenAt j, ?_⟩
  · rw [h.cellAt j (by omega)]; simp [hj]
  · rw [List.map_set]; exact (h.stored j (f x)).1

theorem made_zeros {w : World} {base e n : Nat} {v : Value} (h : w.ownsRow base e 1 v n (madeCells (Value.int .i64 0).cells (n * 1)).toList) : w.ownsRow base e 1 v n ((List.replicate n (0 : Int)).map (Value.int .i64)) := by
  rw [show (Value.int .i64 0).cells = #[.int .i64 0] from rfl, toList_madeCells_one, Nat.mul_one] at h
  simpa using h




end Go.Proofs.Ythkggnmfdlggbaa
