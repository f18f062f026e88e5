/- Occurrences in the program, and in the reference. -/
import Derived.Test.YthkggnmfdlggbaaG4
import Derived.Test.YthkggnmfdlggbaaS1
namespace Go.Proofs.Ythkggnmfdlggbaa
set_option maxRecDepth 100000
open Go Go.RowKit

/-- The first k rows that are kept. -/
def keptR (H : List Int → Bool) (rs : List Row) (k : Nat) : List Row := (rs.take k).filter fun r => H r.xs
theorem keptR_succ (H : List Int → Bool) (rs : List Row) (k : Nat) (h : k < rs.length) : keptR H rs (k + 1) = if H rs[k].xs = true then keptR H rs k ++ [rs[k]] else keptR H rs k := by
  unfold keptR
  rw [List.take_succ_eq_append_getElem h, List.filter_append]
  by_cases hh : H rs[k].xs = true <;> simp [hh]
theorem keptR_le (H : List Int → Bool) (rs : List Row) (k : Nat) : (keptR H rs k).length ≤ rs.length := by
  unfold keptR
  have h1 := List.length_filter_le (fun r : Row => H r.xs) (rs.take k)
  have h2 : (rs.take k).length ≤ rs.length := by simp; omega
  omega
theorem keptR_sub (H : List Int → Bool) (rs : List Row) : (keptR H rs rs.length).Sublist rs := by unfold keptR; rw [List.take_length]; exact List.filter_sublist
theorem keptR_all (H : List Int → Bool) (rs : List Row) : (keptR H rs rs.length).map Row.xs = (rs.map Row.xs).filter H := by unfold keptR; rw [List.take_length, List.filter_map]; rfl


end Go.Proofs.Ythkggnmfdlggbaa
