/- MeshOf, program and reference. -/
import Derived.Test.YthkggnmfdlggbaaL3
import Derived.Test.YthkggnmfdlggbaaL2
import Derived.Test.YthkggnmfdlggbaaN1
import Derived.Test.YthkggnmfdlggbaaM2
import Derived.Test.YthkggnmfdlggbaaQ1
import Derived.Deep.RegionHeld3
import Derived.StillTailTactics
import Derived.Deep.RegionLaw
import Derived.Deep.AppendLies
namespace Go.Proofs.Ythkggnmfdlggbaa
set_option maxRecDepth 100000
open Go Go.RowKit

def boxesTo (i : Int) (y : Nat) : List (List Int) := (List.range y).map fun y : Nat => [i, (y : Int)]
theorem boxesTo_succ (i : Int) (y : Nat) : boxesTo i (y + 1) = boxesTo i y ++ [[i, (y : Int)]] := by simp [boxesTo, List.range_succ]
theorem boxesTo_length (i : Int) (y : Nat) : (boxesTo i y).length = y := by simp [boxesTo]
def boxesL (n : Nat) (ys : List Int) : List (List Int) := ys.flatMap fun i => boxesTo i (n + 1)
theorem boxesL_succ (n : Nat) (ys : List Int) (k : Nat) (h : k < ys.length) : boxesL n (ys.take (k + 1)) = boxesL n (ys.take k) ++ boxesTo ys[k] (n + 1) := by
  unfold boxesL
  rw [List.take_succ_eq_append_getElem h, List.flatMap_append]; simp
theorem boxesL_le (n : Nat) (ys : List Int) : (boxesL n ys).length ≤ ys.length * (n + 1) := flatMap_le _ _ _ fun i _ => by rw [boxesTo_length]; exact Nat.le_refl _
theorem boxesL_two {n : Nat} {ys : List Int} {s : List Int} (h : s ∈ boxesL n ys) : s.length = 2 := by
  obtain ⟨i, _, hs⟩ := List.mem_flatMap.1 h
  obtain ⟨y, _, rfl⟩ := List.mem_map.1 hs
  rfl
theorem sizeX_two {X : List (List Int)} (h : ∀ s ∈ X, s.length = 2) : sizeX X = 2 * X.length := by
  induction X with
  | nil => rfl
  | cons a t ih =>
    have h1 := h a (by simp)
    have h2 := ih (fun s hs => h s (by simp [hs]))
    simp only [sizeX, List.map_cons, List.sum_cons, List.length_cons] at h2 ⊢
    omega
theorem nearB_len {xs ys : List Int} (h : nearB xs ys = true) : ys.length ≤ 8 := by
  unfold nearB at h
  rw [Bool.and_eq_true] at h
  have h8 := (permB_true h.1).1
  have hj : ∀ j, j < ys.length → joinAt xs.length ys j = true := fun j hj => by
    have := h.2
    unfold joinTo at this
    exact List.all_eq_true.1 this j (List.mem_range.2 hj)
  have hge : ∀ j (hj' : j < ys.length), (j : Int) + 1 ≤ ys[j] := by
    intro j
    induction j with
    | zero =>
      intro h0
      have := hj 0 h0
      simp only [joinAt, List.getElem?_eq_getElem h0, Option.getD_some, decide_eq_true_eq] at this
      omega
    | succ j ih =>
      intro h0
      have h1 := ih (by omega)
      have := hj (j + 1) h0
      simp only [joinAt, List.getElem?_eq_getElem h0, Nat.add_sub_cancel, List.getElem?_eq_getElem (show j < ys.length by omega), Option.getD_some, decide_eq_true_eq] at this
      omega
  rcases Nat.eq_zero_or_pos ys.length with h0 | h0
  · omega
  · have h1 := hge (ys.length - 1) (by omega)
    have := hj (ys.length - 1) (by omega)
    simp only [joinAt, List.getElem?_eq_getElem (show ys.length - 1 < ys.length by omega), Option.getD_some, decide_eq_true_eq] at this
    omega

def moB (xs ys : List Int) : Bool := nearB xs ys && decide (xs.length ≤ 4)
def moG1 (xs ys : List Int) : List Int := if moB xs ys = true then xs else []
def moG2 (xs ys : List Int) : List (List Int) := if moB xs ys = true then boxesL xs.length ys else []
theorem moG_le (xs ys : List Int) : (moG1 xs ys).length + ((moG2 xs ys).length + sizeX (moG2 xs ys)) ≤ 1048576 := by
  unfold moG1 moG2
  by_cases h : moB xs ys = true
  · rw [if_pos h, if_pos h]
    unfold moB at h
    rw [Bool.and_eq_true, decide_eq_true_eq] at h
    have h1 := nearB_len h.1
    have h2 := boxesL_le xs.length ys
    have h3 := Nat.mul_le_mul h1 (show xs.length + 1 ≤ 5 by omega)
    rw [sizeX_two fun s hs => boxesL_two hs]
    omega
  · rw [if_neg h, if_neg h]
    simp [sizeX]
/-- A call's result: a mesh of its own, and a truth value. -/
def RetMb (w : World) (xs : List Int) (X : List (List Int)) (b : Bool) (e : Ending) (w' : World) : Prop :=
  ∃ A B c k rs, e = .returned (.tuple #[.agg #[.slice A xs.length c, .slice B rs.length k], .bool b]) ∧ rs.map Row.xs = X ∧ Own w' w.heap.size w'.heap.size (⟨A, c, xs⟩ :: rs) [⟨B, k, rs.map Row.v⟩] ∧ Below w.heap.size w w'
theorem own_nilmesh (w : World) (lo hi : Nat) : Own w lo hi [⟨none, 0, []⟩] [⟨none, 0, ([] : List Row).map Row.v⟩] := by
  refine ⟨fun r hr => ?_, fun r hr g hg => ?_, List.pairwise_singleton _ _, fun o ho => ?_, fun o ho g hg => ?_⟩
  · obtain rfl := List.mem_singleton.1 hr
    exact ⟨rfl, .inl ⟨rfl, rfl⟩⟩
  · obtain rfl := List.mem_singleton.1 hr
    cases hg
  · obtain rfl := List.mem_singleton.1 ho
    exact ⟨rfl, .inl ⟨rfl, rfl⟩⟩
  · obtain rfl := List.mem_singleton.1 ho
    cases hg
theorem grown_drew {w w' : World} {row : Option Nat} (h : w.drew.grownBy w' row) : w.grownBy w' row := ⟨h.os, h.tape, h.output, h.size, h.block⟩
theorem near_ib (A B : Option Addr) (c k : Nat) (xs ys : List Int) (w : World) (b : Bool) (h : InN w A c xs B k ys) (hb : nearB xs ys = b) :
    Calls Try.prog 43 #[.agg #[.slice A xs.length c, .slice B ys.length k]] w (Rb w (.bool b)) := by subst hb; exact near_impl A B c k xs ys w h
theorem near_sb (A B : Option Addr) (c k : Nat) (xs ys : List Int) (w : World) (b : Bool) (h : InN w A c xs B k ys) (hb : nearB xs ys = b) :
    Calls Try.prog 40 #[.agg #[.slice A xs.length c, .slice B ys.length k]] w (Rb w (.bool b)) := by subst hb; exact near_spec A B c k xs ys w h


end Go.Proofs.Ythkggnmfdlggbaa
