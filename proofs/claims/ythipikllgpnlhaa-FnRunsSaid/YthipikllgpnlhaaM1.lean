/- Plain: permutations as lists: how many there can be in a range; a permutation is its own pattern. -/
import Derived.Test.YthipikllgpnlhaaP2
import Derived.Test.YthipikllgpnlhaaQ1
namespace Go.Proofs.Ythipikllgpnlhaa
set_option maxRecDepth 100000
open Go

theorem nodup_len_le : ∀ (k : Nat) (l : List Int) (lo : Int), l.Nodup → (∀ y ∈ l, lo ≤ y ∧ y < lo + k) → l.length ≤ k
  | 0, l, lo, _, h => by
    cases l with
    | nil => simp
    | cons y l => have := h y (by simp); omega
  | k + 1, l, lo, hn, h => by
    have h1 := nodup_len_le k (l.erase (lo + k)) lo (hn.erase _) (fun y hy => by
      have hm := List.mem_of_mem_erase hy
      have hne : y ≠ lo + k := fun e => by
        subst e
        exact (hn.mem_erase_iff.1 hy).1 rfl
      have := h y hm
      omega)
    have h2 := List.length_erase (a := lo + k) (l := l)
    split at h2 <;> omega

theorem belowN_eq {l : List Int} {m : Nat} (hn : l.Nodup) (hr : ∀ y ∈ l, 1 ≤ y ∧ y ≤ m) (hl : l.length = m) (x : Int) (hx : 1 ≤ x ∧ x ≤ m) : (belowN l x : Int) = x - 1 := by
  have h1 := nodup_len_le (x - 1).toNat (l.filter fun y => decide (y < x)) 1 (hn.filter _) (fun y hy => by
    have := List.mem_filter.1 hy
    have h := hr y this.1
    have h2 : y < x := by simpa using this.2
    omega)
  have h2 := nodup_len_le (m + 1 - x).toNat (l.filter fun y => !decide (y < x)) x (hn.filter _) (fun y hy => by
    have := List.mem_filter.1 hy
    have h := hr y this.1
    have h2 : ¬ y < x := by simpa using this.2
    omega)
  have h3 : (l.filter fun y => decide (y < x)).length + (l.filter fun y => !decide (y < x)).length = l.length := by
    clear h1 h2 hn hr hl
    induction l with
    | nil => rfl
    | cons y l ih => by_cases h : y < x <;> simp [h] <;> omega
  unfold belowN
  omega

theorem patL_self {l : List Int} {m : Nat} (hn : l.Nodup) (hr : ∀ y ∈ l, 1 ≤ y ∧ y ≤ m) (hl : l.length = m) : patL l = l := by
  unfold patL
  conv => rhs; rw [← List.map_id l]
  exact List.map_congr_left fun x hx => by rw [belowN_eq hn hr hl x (hr x hx)]; simp

/-- In a permutation of n each number up to n occurs. -/
theorem perm_mem {l : List Int} {m : Nat} (hn : l.Nodup) (hr : ∀ y ∈ l, 1 ≤ y ∧ y ≤ m) (hl : l.length = m) (x : Int) (hx : 1 ≤ x ∧ x ≤ m) : x ∈ l := by
  refine Classical.byContradiction fun hno => ?_
  have h1 := nodup_len_le (x - 1).toNat (l.filter fun y => decide (y < x)) 1 (hn.filter _) (fun y hy => by
    have := List.mem_filter.1 hy
    have h := hr y this.1
    have h2 : y < x := by simpa using this.2
    omega)
  have h2 := nodup_len_le (m - x).toNat (l.filter fun y => !decide (y < x)) (x + 1) (hn.filter _) (fun y hy => by
    have := List.mem_filter.1 hy
    have h := hr y this.1
    have h2 : ¬ y < x := by simpa using this.2
    have h3 : y ≠ x := fun e => hno (by subst e; exact this.1)
    omega)
  have h3 : (l.filter fun y => decide (y < x)).length + (l.filter fun y => !decide (y < x)).length = l.length := by
    clear h1 h2 hn hr hl hno
    induction l with
    | nil => rfl
    | cons y l ih => by_cases h : y < x <;> simp [h] <;> omega
  omega

def cutAt (xs : List Int) (i : Nat) : List Int := xs.take i ++ xs.drop (i + 1)
theorem cutAt_length (xs : List Int) (i : Nat) (h : i < xs.length) : (cutAt xs i).length = xs.length - 1 := by simp [cutAt]; omega
theorem cutAt_split {xs : List Int} {i : Nat} (h : i < xs.length) : xs = xs.take i ++ (xs[i] :: xs.drop (i + 1)) := by
  rw [← List.drop_eq_getElem_cons h, List.take_append_drop]
/-- The greatest number cut out of a permutation leaves the lesser ones, a permutation. -/
theorem parent_eq {xs : List Int} {i : Nat} (hp : permB xs = true) (hi : i < xs.length) (hx : xs[i] = (xs.length : Int)) : patL (cutAt xs i) = xs.filter fun y => decide (y < (xs.length : Int)) := by
  obtain ⟨_, hr, hn⟩ := permB_true hp
  have hs := cutAt_split hi
  have hf : (xs.filter fun y => decide (y < (xs.length : Int))) = cutAt xs i := by
    have key : ∀ l : List Int, (∀ y ∈ l, y ≠ (xs.length : Int)) → (∀ y ∈ l, 1 ≤ y ∧ y ≤ (xs.length : Int)) → l.filter (fun y => decide (y < (xs.length : Int))) = l := fun l h1 h2 => List.filter_eq_self.2 fun y hy => by
      have a := h1 y hy
      have b := (h2 y hy).2
      simp; omega
    have hn' := hn
    rw [hs, List.nodup_append] at hn'
    obtain ⟨_, hn2, hn3⟩ := hn'
    rw [List.nodup_cons] at hn2
    conv => lhs; arg 2; rw [hs]
    rw [List.filter_append, List.filter_cons, if_neg (by rw [hx]; simp)]
    rw [key _ (fun y hy e => hn3 y hy _ (List.mem_cons_self) (by rw [hx]; exact e)) (fun y hy => hr y (List.mem_of_mem_take hy)), key _ (fun y hy e => hn2.1 (by rw [hx, ← e]; exact hy)) (fun y hy => hr y (List.mem_of_mem_drop hy))]
    rfl
  rw [hf]
  refine patL_self (m := xs.length - 1) ?_ ?_ (cutAt_length xs i hi)
  · rw [← hf]; exact hn.filter _
  · intro y hy
    rw [← hf] at hy
    have h1 := List.mem_filter.1 hy
    have h2 := hr y h1.1
    have h3 : y < (xs.length : Int) := by simpa using h1.2
    omega
end Go.Proofs.Ythipikllgpnlhaa
