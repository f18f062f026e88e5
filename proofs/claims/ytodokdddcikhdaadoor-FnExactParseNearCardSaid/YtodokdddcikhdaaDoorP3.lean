/- Contracts of the reference's statistics. -/
import Derived.Test.YtodokdddcikhdaaDoorP2b
namespace Go.Proofs.YtodokdddcikhdaaDoor
set_option maxRecDepth 100000
open Go Go.RowKit





def leastL (s : Int) (l : List Int) : Int := l.foldl (fun m x => if x < m then x else m) s
theorem leastL_le (s : Int) (l : List Int) : leastL s l ≤ s := by
  induction l generalizing s with
  | nil => exact Int.le_refl _
  | cons y l ih =>
    have := ih (if y < s then y else s)
    have h2 : leastL s (y :: l) = leastL (if y < s then y else s) l := rfl
    rw [h2]
    refine Int.le_trans this ?_
    split <;> omega
theorem leastL_lt (s : Int) (l : List Int) (x : Int) (hs : x < s) (hne : x ∉ l) : x < leastL s l ↔ ∀ y ∈ l, ¬ y < x := by
  induction l generalizing s with
  | nil => simp [leastL, hs]
  | cons y l ih =>
    have h2 : leastL s (y :: l) = leastL (if y < s then y else s) l := rfl
    rw [h2]
    have hy : y ≠ x := fun e => hne (by simp [e])
    have hne' : x ∉ l := fun e => hne (by simp [e])
    have hle := leastL_le (if y < s then y else s) l
    by_cases h : y < x
    · constructor
      · intro h3
        have : (if y < s then y else s) ≤ y := by split <;> omega
        omega
      · intro h3; exact absurd h (h3 y (by simp))
    · rw [ih _ (by split <;> omega) hne']
      constructor
      · intro g z hz
        rcases List.mem_cons.1 hz with rfl | hz
        · exact h
        · exact g z hz
      · intro g z hz
        exact g z (by simp [hz])
theorem leastL_snoc (s : Int) (l : List Int) (x : Int) : leastL s (l ++ [x]) = if x < leastL s l then x else leastL s l := by unfold leastL; rw [List.foldl_append]; rfl
def mostL (s : Int) (l : List Int) : Int := l.foldl (fun m x => if x > m then x else m) s
theorem mostL_le (s : Int) (l : List Int) : s ≤ mostL s l := by
  induction l generalizing s with
  | nil => exact Int.le_refl _
  | cons y l ih =>
    have := ih (if y > s then y else s)
    have h2 : mostL s (y :: l) = mostL (if y > s then y else s) l := rfl
    rw [h2]
    refine Int.le_trans ?_ this
    split <;> omega
theorem mostL_lt (s : Int) (l : List Int) (x : Int) (hs : s < x) (hne : x ∉ l) : mostL s l < x ↔ ∀ y ∈ l, ¬ y > x := by
  induction l generalizing s with
  | nil => simp [mostL, hs]
  | cons y l ih =>
    have h2 : mostL s (y :: l) = mostL (if y > s then y else s) l := rfl
    rw [h2]
    have hy : y ≠ x := fun e => hne (by simp [e])
    have hne' : x ∉ l := fun e => hne (by simp [e])
    have hle := mostL_le (if y > s then y else s) l
    by_cases h : y > x
    · constructor
      · intro h3
        have : y ≤ (if y > s then y else s) := by split <;> omega
        omega
      · intro h3; exact absurd h (h3 y (by simp))
    · rw [ih _ (by split <;> omega) hne']
      constructor
      · intro g z hz
        rcases List.mem_cons.1 hz with rfl | hz
        · exact h
        · exact g z hz
      · intro g z hz
        exact g z (by simp [hz])
theorem mostL_snoc (s : Int) (l : List Int) (x : Int) : mostL s (l ++ [x]) = if x > mostL s l then x else mostL s l := by unfold mostL; rw [List.foldl_append]; rfl
theorem mem_take_iff {xs : List Int} {k : Nat} {y : Int} (hk : k ≤ xs.length) : y ∈ xs.take k ↔ ∃ j, j < k ∧ xs[j]?.getD 0 = y := by
  constructor
  · intro h
    obtain ⟨j, hj, rfl⟩ := List.getElem_of_mem h
    simp only [List.length_take] at hj
    exact ⟨j, by omega, by simp [show j < xs.length by omega]⟩
  · rintro ⟨j, hj, rfl⟩
    rw [List.getElem?_eq_getElem (show j < xs.length by omega)]
    exact List.mem_take_iff_getElem.2 ⟨j, by omega, rfl⟩
theorem not_mem_take {xs : List Int} {k : Nat} (hk : k < xs.length) (h : xs.Nodup) : xs[k] ∉ xs.take k := by
  have h' := (List.take_sublist (k + 1) xs).nodup h
  rw [List.take_succ_eq_append_getElem hk] at h'
  exact ((nodup_snoc _ _).1 h').2




end Go.Proofs.YtodokdddcikhdaaDoor