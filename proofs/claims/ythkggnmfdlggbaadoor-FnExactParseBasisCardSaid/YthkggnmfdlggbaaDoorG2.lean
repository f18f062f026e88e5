/- Avoiding a list; InClass, IsWithin. -/
import Derived.Test.YthkggnmfdlggbaaDoorG1
namespace Go.Proofs.YthkggnmfdlggbaaDoor
set_option maxRecDepth 100000
open Go Go.RowKit

def avoidB (X : List (List Int)) (p : List Int) : Bool := !X.any fun q => hasB p q
theorem basis_perm {X : List (List Int)} (h : basisB X = true) : ∀ q ∈ X, permB q = true := fun q hq => by
  unfold basisB at h
  rw [Bool.and_eq_true] at h
  obtain ⟨i, hi, rfl⟩ := List.mem_iff_getElem.1 hq
  exact basTo_perm h.2 hi hi
theorem basis_len {X : List (List Int)} (h : basisB X = true) : X.length ≤ 8 := by
  unfold basisB at h
  rw [Bool.and_eq_true, decide_eq_true_eq] at h
  exact h.1
theorem rows_8 {rs : List Row} (h : ∀ q ∈ rs.map Row.xs, permB q = true) : ∀ r ∈ rs, r.xs.length ≤ 8 := fun r hr => (permB_true (h r.xs (List.mem_map.2 ⟨r, hr, rfl⟩))).1
theorem any_rows (rs : List Row) (H : List Int → Bool) : (rs.any fun r : Row => H r.xs) = (rs.map Row.xs).any H := by rw [List.any_map]; rfl
theorem basis_ib (A : Option Addr) (c : Nat) (rs : List Row) (w : World) (b : Bool) (h : InL w A c rs) (hb : basisB (rs.map Row.xs) = b) : Calls Tryd.prog 14 #[.slice A rs.length c] w (Rb w (.bool b)) := by
  subst hb; exact basis_impl A c rs w h
theorem basis_sb (A : Option Addr) (c : Nat) (rs : List Row) (w : World) (b : Bool) (h : InL w A c rs) (hb : basisB (rs.map Row.xs) = b) : Calls Tryd.prog 11 #[.slice A rs.length c] w (Rb w (.bool b)) := by
  subst hb; exact basis_spec A c rs w h


def inClassB (X : List (List Int)) (p : List Int) : Bool := basisB X && permB p && avoidB X p
end Go.Proofs.YthkggnmfdlggbaaDoor
