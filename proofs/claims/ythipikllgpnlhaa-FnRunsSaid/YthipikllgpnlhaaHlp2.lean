/- Contracts of the laws' own helpers that write: toIntS copies a list into a new row, markIntS writes numbers into a row. -/
import Derived.Test.YthipikllgpnlhaaHlp
namespace Go.Proofs.Ythipikllgpnlhaa
set_option maxRecDepth 100000
open Go Go.RowKit

/-- One element more has been copied. -/
theorem copied_step (xs : List Int) (k : Nat) (h : k < xs.length) :
    ((xs.take k ++ List.replicate (xs.length - k) 0).map (Value.int .i64)).set k (.int .i64 xs[k]) = (xs.take (k + 1) ++ List.replicate (xs.length - (k + 1)) 0).map (Value.int .i64) := by
  apply List.ext_getElem
  · simp; omega
  · intro i h1 h2
    simp only [List.getElem_set, List.getElem_map, List.getElem_append, List.getElem_take, List.getElem_replicate, List.length_take]
    by_cases hik : k = i
    · subst hik
      simp [show k < min (k + 1) xs.length by omega]
    · rw [if_neg hik]
      split <;> split <;> first | rfl | omega

theorem marks_succ (k : Int) (j : Nat) : marks k (j + 1) = marks k j ++ [k + j] := by simp [marks, List.range_succ]
theorem marked_step (k : Int) (xs : List Int) (j : Nat) (h : j < xs.length) :
    ((marks k j ++ xs.drop j).map (Value.int .i64)).set j (.int .i64 (k + j)) = (marks k (j + 1) ++ xs.drop (j + 1)).map (Value.int .i64) := by
  rw [List.drop_eq_getElem_cons h, marks_succ]
  simp only [List.map_append, List.map_cons, List.set_append, List.length_map, marks_length, Nat.lt_irrefl, if_false, Nat.sub_self, List.set_cons_zero, List.append_assoc, List.cons_append, List.nil_append]

/-- Two slices of the call's own, the later one made when the earlier one was there. -/
theorem own_apart {w : World} {base e n : Nat} {v : Value} {vs : List Value} (h : w.ownsRow base e 1 v n vs) {row : Option Nat} (hr : ∀ g, row = some g → g < base) : v.ownBlock = none ∨ v.ownBlock ≠ row := by
  rcases hv : v.ownBlock with _ | k
  · exact .inl rfl
  · have := (h.lt k hv).1
    refine .inr fun he => ?_
    have := hr k he.symm
    omega
end Go.Proofs.Ythipikllgpnlhaa
