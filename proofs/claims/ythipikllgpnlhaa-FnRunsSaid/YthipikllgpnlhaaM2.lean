/- Plain maths: all lists of the numbers 1 to n, breadth first and depth first. -/
import Derived.Test.YthipikllgpnlhaaQ1
namespace Go.Proofs.Ythipikllgpnlhaa
set_option maxRecDepth 100000

def nums (n : Nat) : List Int := (List.range n).map fun i : Nat => (i : Int) + 1
theorem nums_succ (n : Nat) : nums (n + 1) = nums n ++ [(n : Int) + 1] := by simp [nums, List.range_succ]
theorem nums_length (n : Nat) : (nums n).length = n := by simp [nums]
/-- The numbers that may come next. -/
def nexts (n : Nat) (p : List Int) : List Int := (nums n).filter fun v => !decide (v ∈ p)
def ext1 (n : Nat) (p : List Int) : List (List Int) := (nexts n p).map fun v => p ++ [v]
/-- One number more, in every way. -/
def ext (n : Nat) (ls : List (List Int)) : List (List Int) := ls.flatMap (ext1 n)
def permsI (n : Nat) : Nat → List (List Int)
  | 0 => [[]]
  | i + 1 => ext n (permsI n i)
def permsL (n : Nat) : List (List Int) := permsI n n
/-- Depth first: every way to k numbers more. -/
def fillF (n : Nat) : Nat → List Int → List (List Int)
  | 0, p => [p]
  | k + 1, p => (nexts n p).flatMap fun v => fillF n k (p ++ [v])

theorem nums_mem {n : Nat} {v : Int} : v ∈ nums n ↔ 1 ≤ v ∧ v ≤ n := by
  unfold nums
  rw [List.mem_map]
  constructor
  · rintro ⟨i, hi, rfl⟩
    have := List.mem_range.1 hi
    omega
  · rintro ⟨h1, h2⟩
    exact ⟨(v - 1).toNat, List.mem_range.2 (by omega), by omega⟩
theorem nexts_le (n : Nat) (p : List Int) : (nexts n p).length ≤ n := by
  have := List.length_filter_le (fun v => !decide (v ∈ p)) (nums n)
  rw [nums_length] at this
  exact this
theorem nexts_mem {n : Nat} {p : List Int} {v : Int} : v ∈ nexts n p ↔ (1 ≤ v ∧ v ≤ n) ∧ v ∉ p := by
  unfold nexts
  rw [List.mem_filter, nums_mem]
  simp
theorem flatMap_le {α β : Type} (f : α → List β) (m : Nat) (l : List α) (h : ∀ a ∈ l, (f a).length ≤ m) : (l.flatMap f).length ≤ l.length * m := by
  induction l with
  | nil => simp
  | cons a t ih =>
    have h1 := h a (by simp)
    have h2 := ih (fun b hb => h b (by simp [hb]))
    rw [List.flatMap_cons, List.length_append, List.length_cons, Nat.add_mul, Nat.one_mul]
    omega
theorem ext_le (n : Nat) (ls : List (List Int)) : (ext n ls).length ≤ ls.length * n :=
  flatMap_le _ n ls fun p _ => by unfold ext1; rw [List.length_map]; exact nexts_le n p
theorem permsI_le (n i : Nat) : (permsI n i).length ≤ n ^ i := by
  induction i with
  | zero => simp [permsI]
  | succ i ih =>
    have h := ext_le n (permsI n i)
    have h2 := Nat.mul_le_mul_right n ih
    rw [Nat.pow_succ]
    exact Nat.le_trans h h2
theorem fillF_le (n k : Nat) : ∀ p, (fillF n k p).length ≤ n ^ k := by
  induction k with
  | zero => intro p; simp [fillF]
  | succ k ih =>
    intro p
    have h := flatMap_le (fun v => fillF n k (p ++ [v])) (n ^ k) (nexts n p) (fun v _ => ih _)
    have h2 := Nat.mul_le_mul_right (n ^ k) (nexts_le n p)
    rw [Nat.pow_succ, Nat.mul_comm]
    exact Nat.le_trans h h2
theorem fill_iter (n : Nat) : ∀ (k i : Nat), permsI n (i + k) = (permsI n i).flatMap (fillF n k) := by
  intro k
  induction k with
  | zero => intro i; simp [fillF]
  | succ k ih =>
    intro i
    have h := ih (i + 1)
    rw [show i + (k + 1) = i + 1 + k by omega, h]
    show (ext n (permsI n i)).flatMap (fillF n k) = _
    unfold ext
    rw [List.flatMap_assoc]
    congr 1
    funext p
    unfold ext1
    rw [List.flatMap_map]
    rfl
theorem fill_perms (n : Nat) : fillF n n [] = permsL n := by
  have h := fill_iter n n 0
  rw [Nat.zero_add] at h
  show fillF n n [] = permsI n n
  rw [h]
  simp [permsI]
theorem permsI_mem {n i : Nat} {p : List Int} (h : p ∈ permsI n i) : p.length = i ∧ (∀ v ∈ p, 1 ≤ v ∧ v ≤ n) ∧ p.Nodup := by
  induction i generalizing p with
  | zero =>
    have : p = [] := by simpa [permsI] using h
    subst this
    simp
  | succ i ih =>
    obtain ⟨q, hq, hp⟩ := List.mem_flatMap.1 h
    obtain ⟨v, hv, rfl⟩ := List.mem_map.1 hp
    obtain ⟨h1, h2, h3⟩ := ih hq
    obtain ⟨h4, h5⟩ := nexts_mem.1 hv
    refine ⟨by simp [h1], fun u hu => ?_, (nodup_snoc q v).2 ⟨h3, h5⟩⟩
    rcases List.mem_append.1 hu with hu | hu
    · exact h2 u hu
    · obtain rfl := List.mem_singleton.1 hu
      exact h4
theorem permsL_perm {n : Nat} (h8 : n ≤ 8) {p : List Int} (h : p ∈ permsL n) : permB p = true ∧ p.length = n := by
  obtain ⟨h1, h2, h3⟩ := permsI_mem h
  refine ⟨?_, h1⟩
  simp only [permB, decide_eq_true_eq]
  exact ⟨by omega, fun v hv => by rw [h1]; exact h2 v hv, h3⟩
theorem permsI_all {n : Nat} : ∀ (p : List Int), p.Nodup → (∀ v ∈ p, 1 ≤ v ∧ v ≤ n) → p ∈ permsI n p.length := by
  intro p
  induction hl : p.length generalizing p with
  | zero => intro _ _; rw [List.eq_nil_of_length_eq_zero hl]; simp [permsI]
  | succ i ih =>
    intro hn hr
    have hne : p ≠ [] := by intro e; subst e; simp at hl
    obtain ⟨q, v, rfl⟩ : ∃ q v, p = q ++ [v] := ⟨p.dropLast, p.getLast hne, (List.dropLast_concat_getLast hne).symm⟩
    obtain ⟨h1, h2⟩ := (nodup_snoc q v).1 hn
    refine List.mem_flatMap.2 ⟨q, ih q (by simpa using hl) h1 (fun u hu => hr u (by simp [hu])), List.mem_map.2 ⟨v, nexts_mem.2 ⟨hr v (by simp), h2⟩, rfl⟩⟩
theorem permB_mem {p : List Int} (h : permB p = true) : p ∈ permsL p.length := permsI_all p (permB_true h).2.2 (permB_true h).2.1

end Go.Proofs.Ythipikllgpnlhaa
