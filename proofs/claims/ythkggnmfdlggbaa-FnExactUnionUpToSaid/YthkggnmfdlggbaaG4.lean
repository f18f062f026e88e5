/- The program's occurrences: all ascending places, those that have the pattern. -/
import Derived.Test.YthkggnmfdlggbaaH3
namespace Go.Proofs.Ythkggnmfdlggbaa
set_option maxRecDepth 100000
open Go Go.RowKit

theorem pow_eight {n i : Nat} (hn : n ≤ 8) (hi : i ≤ 8) : n ^ i ≤ 16777216 := by
  have h1 : n ^ i ≤ 8 ^ i := Nat.pow_le_pow_left hn i
  have h2 : 8 ^ i ≤ 8 ^ 8 := Nat.pow_le_pow_right (by omega) hi
  omega
def ascTo (l : List Int) (u : Nat) : List (List Int) := (marks (fromI l) u).map fun x => l ++ [x]
theorem ascTo_succ (l : List Int) (u : Nat) : ascTo l (u + 1) = ascTo l u ++ [l ++ [fromI l + u]] := by unfold ascTo; rw [marks_succ, List.map_append]; rfl
theorem ascTo_length (l : List Int) (u : Nat) : (ascTo l u).length = u := by unfold ascTo; rw [List.length_map, marks_len]
theorem ascX_take_le (n : Nat) (ls : List (List Int)) (j : Nat) (h : ∀ l ∈ ls, 1 ≤ fromI l) : (ascX n (ls.take j)).length ≤ ls.length * n := by
  have h1 := flatMap_le (asc1 n) n (ls.take j) (fun p hp => by
    unfold asc1
    rw [List.length_map]
    exact ways_le (h p ((List.take_sublist j ls).subset hp)))
  have h2 : (ls.take j).length ≤ ls.length := by simp; omega
  have h3 := Nat.mul_le_mul_right n h2
  exact Nat.le_trans h1 h3

end Go.Proofs.Ythkggnmfdlggbaa
