/- The reference's permutations, depth first. -/
import Derived.Test.YtodokdddcikhdaaDoorR3
namespace Go.Proofs.YtodokdddcikhdaaDoor
set_option maxRecDepth 100000
open Go Go.RowKit

/-- What a call that fills a list leaves: the rows that came, behind those that were there; the rows F beside them are kept. -/
def Filled (w : World) (lo : Nat) (F rs : List Row) (L : List (List Int)) (e : Ending) (w' : World) : Prop :=
  ∃ A' c' rs', e = .returned (.slice A' (rs.length + rs'.length) c') ∧ rs'.map Row.xs = L ∧ Own w' lo w'.heap.size (F ++ (rs ++ rs')) [⟨A', c', (rs ++ rs').map Row.v⟩] ∧ Below lo w w'
theorem own_row {w : World} {lo hi : Nat} {rs : List Row} {os : List Outer} (h : Own w lo hi rs os) {r : Row} (hr : r ∈ rs) (hh : hi ≤ w.heap.size) : r.xs.length ≤ r.c ∧ Rd (Value.int .i64) w w.heap.size r.A r.xs :=
  ⟨h.read.cap r hr, (h.read.rd r hr).more hh⟩

def fillTo (n k : Nat) (p : List Int) (u : Nat) : List (List Int) := ((nums u).filter fun v => !decide (v ∈ p)).flatMap fun v => fillF n k (p ++ [v])
theorem fillTo_succ (n k : Nat) (p : List Int) (u : Nat) : fillTo n k p (u + 1) = if ((u : Int) + 1) ∈ p then fillTo n k p u else fillTo n k p u ++ fillF n k (p ++ [(u : Int) + 1]) := by
  unfold fillTo
  rw [nums_succ, List.filter_append]
  by_cases h : ((u : Int) + 1) ∈ p <;> simp [h]
theorem fillTo_le (n k : Nat) (p : List Int) (u : Nat) : (fillTo n k p u).length ≤ u * n ^ k := by
  have h := flatMap_le (fun v => fillF n k (p ++ [v])) (n ^ k) ((nums u).filter fun v => !decide (v ∈ p)) (fun v _ => fillF_le n k _)
  have h1 := List.length_filter_le (fun v => !decide (v ∈ p)) (nums u)
  rw [nums_length] at h1
  exact Nat.le_trans h (Nat.mul_le_mul_right _ h1)
theorem fillTo_all (n k : Nat) (p : List Int) : fillTo n k p n = fillF n (k + 1) p := rfl


end Go.Proofs.YtodokdddcikhdaaDoor
