/- Patterns with joined places: the laws' own helpers for them, and IsNear. -/
import Derived.Test.YthkggnmfdlggbaaDoorProg
import Derived.Test.YthkggnmfdlggbaaDoorBase
import Derived.Test.YthkggnmfdlggbaaDoorHlp
import Derived.Test.YthkggnmfdlggbaaDoorHlp2
import Derived.Test.YthkggnmfdlggbaaDoorP3
import Derived.Test.YthkggnmfdlggbaaDoorR1
namespace Go.Proofs.YthkggnmfdlggbaaDoor
set_option maxRecDepth 100000
open Go Go.RowKit

/-- The joined place at j is right, in a pattern of length n. -/
def joinAt (n : Nat) (ys : List Int) (j : Nat) : Bool := decide (1 ≤ ys[j]?.getD 0 ∧ ys[j]?.getD 0 < n ∧ (j = 0 ∨ ys[j - 1]?.getD 0 < ys[j]?.getD 0))
def joinTo (n : Nat) (ys : List Int) (k : Nat) : Bool := (List.range k).all (joinAt n ys)
theorem joinTo_succ (n : Nat) (ys : List Int) (k : Nat) : joinTo n ys (k + 1) = (joinTo n ys k && joinAt n ys k) := by simp [joinTo, List.range_succ]
theorem joinTo_false {n : Nat} {ys : List Int} {k m : Nat} (h : k < m) (ht : joinAt n ys k = false) : joinTo n ys m = false := by
  unfold joinTo
  rw [List.all_eq_false]
  exact ⟨k, List.mem_range.2 h, by simp [ht]⟩
def nearB (xs ys : List Int) : Bool := permB xs && joinTo xs.length ys ys.length

theorem l1In_b (x lo hi : Int) (w : World) (b : Bool) (hb : decide (lo ≤ x ∧ x ≤ hi) = b) :
    Calls Tryd.prog 25 #[.int .i64 x, .int .i64 lo, .int .i64 hi] w fun e w' => e = .returned (.bool b) ∧ w = w' := by
  subst hb
  exact l1In_any x lo hi w

end Go.Proofs.YthkggnmfdlggbaaDoor
