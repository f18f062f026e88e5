/- All permutations of a length, breadth first and depth first. -/
import Derived.Test.YtodokdddcikhdaaDoorL3
import Derived.Test.YtodokdddcikhdaaDoorM2
import Derived.Test.YtodokdddcikhdaaDoorN1
namespace Go.Proofs.YtodokdddcikhdaaDoor
set_option maxRecDepth 100000
open Go Go.RowKit

theorem pow_six {n i : Nat} (hn : n ≤ 6) (hi : i ≤ 6) : n ^ i ≤ 46656 := by
  have h1 : n ^ i ≤ 6 ^ i := Nat.pow_le_pow_left hn i
  have h2 : 6 ^ i ≤ 6 ^ 6 := Nat.pow_le_pow_right (by omega) hi
  omega
theorem flatMap_take {α β : Type} (f : α → List β) (l : List α) (k : Nat) (h : k < l.length) : (l.take (k + 1)).flatMap f = (l.take k).flatMap f ++ f l[k] := by
  rw [List.take_succ_eq_append_getElem h, List.flatMap_append]; simp
theorem ext_take_le (n : Nat) (ls : List (List Int)) (k : Nat) : (ext n (ls.take k)).length ≤ ls.length * n := by
  have h1 := ext_le n (ls.take k)
  have h2 : (ls.take k).length ≤ ls.length := by simp; omega
  have h3 := Nat.mul_le_mul_right n h2
  omega
/-- What has come of one list's ways at the number v. -/
def extTo (p : List Int) (v : Nat) : List (List Int) := ((nums v).filter fun x => !decide (x ∈ p)).map fun x => p ++ [x]
theorem extTo_succ (p : List Int) (v : Nat) : extTo p (v + 1) = if ((v : Int) + 1) ∈ p then extTo p v else extTo p v ++ [p ++ [(v : Int) + 1]] := by
  unfold extTo
  rw [nums_succ, List.filter_append]
  by_cases h : ((v : Int) + 1) ∈ p <;> simp [h]
theorem extTo_le (p : List Int) (v : Nat) : (extTo p v).length ≤ v := by
  unfold extTo
  have := List.length_filter_le (fun x => !decide (x ∈ p)) (nums v)
  rw [nums_length] at this
  rw [List.length_map]; exact this
theorem ext1_to (n : Nat) (p : List Int) : ext1 n p = extTo p n := rfl

theorem contains_b (A : Option Addr) (c n : Nat) (xs : List Int) (x : Int) (w : World) (b : Bool) (hn : xs.length = n) (hl : n ≤ 4611686018427387904) (hx : Rd (Value.int .i64) w w.heap.size A xs) (hb : decide (x ∈ xs) = b) :
    Calls Tryd.prog 25 #[.slice A n c, .int .i64 x] w fun e w' => e = .returned (.bool b) ∧ w = w' := by
  subst hb
  exact contains_any A c n xs x w hn hl hx
theorem l2Has_b (A : Option Addr) (c n : Nat) (xs : List Int) (x : Int) (w : World) (b : Bool) (hn : xs.length = n) (hl : n ≤ 4611686018427387904) (hx : Rd (Value.int .i64) w w.heap.size A xs) (hb : decide (x ∈ xs) = b) :
    Calls Tryd.prog 19 #[.slice A n c, .int .i64 x] w fun e w' => e = .returned (.bool b) ∧ w = w' := by
  subst hb
  exact l2Has_any A c n xs x w hn hl hx
end Go.Proofs.YtodokdddcikhdaaDoor
