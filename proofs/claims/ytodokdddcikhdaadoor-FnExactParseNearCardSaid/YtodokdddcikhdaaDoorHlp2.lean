/- Contracts of the laws' own helpers that write: toIntS copies a list into a new row, markIntS writes numbers into a row. -/
import Derived.Test.YtodokdddcikhdaaDoorHlp
namespace Go.Proofs.YtodokdddcikhdaaDoor
set_option maxRecDepth 100000
open Go Go.RowKit

/-- One element more has been copied. -/
theorem copied_step (xs : List Int) (k : Nat) (h : k < xs.length) :
    ((xs.take k ++ List.replicate (xs.length - k) 0).map (Value.int .i64)).set k (.int .i64 xs[k]) = (xs.take (k + 1) ++ List.replicate (xs.length - (k + 1)) 0).map (Value.int .i64) := by
  apply List.ext_getElem
  · simp; omega
  · intro i h1 h2
    simp only [List.getElem_set, List.getElem_map, List.getElem_append, List.getElem_take, List.getElem_replicate, List.length_take]
    by_cases hik : k = i
    · subst hik
      simp [show k < min (k + 1) xs.length by omega]
    · rw [if_neg hik]
      split <;> split <;> first | rfl | omega

theorem marks_succ (k : Int) (j : Nat) : marks k (j + 1) = marks k j ++ [k + j] := by simp [marks, List.range_succ]
theorem marked_step (k : Int) (xs : List Int) (j : Nat) (h : j < xs.length) :
    ((marks k j ++ xs.drop j).map (Value.int .i64)).set j (.int .i64 (k + j)) = (marks k (j + 1) ++ xs.drop (j + 1)).map (Value.int .i64) := by
  rw [List.drop_eq_getElem_cons h, marks_succ]
  simp only [List.map_append, List.map_cons, List.set_append, List.length_map, marks_length, Nat.lt_irrefl, if_false, Nat.sub_self, List.set_cons_zero, List.append_assoc, List.cons_append, List.nil_append]

set_option maxHeartbeats 400000 in
theorem markIntS_any (A : Option Addr) (c base : Nat) (xs : List Int) (k : Int) (w : World) (hl : xs.length ≤ 1073741824) (hk : 0 ≤ k ∧ k ≤ 1073741824)
    (hx : w.ownsRow base 3 1 (.slice A xs.length c) xs.length (xs.map (Value.int .i64))) :
    Calls Tryd.prog 15 #[.slice A xs.length c, .int .i64 k] w fun e w' => e = .returned (.int .i64 (k + xs.length)) ∧
      w'.ownsRow base 3 1 (.slice A xs.length c) xs.length ((marks k xs.length).map (Value.int .i64)) ∧ w.grownBy w' (Value.slice A xs.length c).ownBlock := by
  go_enter Tryd.func15, Tryd.ntmps15
  go_wp2
  go_loopw [1, 5] (fun q i wr => ∃ j : Nat, j ≤ xs.length ∧ i = .int .i64 j ∧ q = .int .i64 (k + j) ∧ wr.ownsRow base 3 1 (.slice A xs.length c) xs.length ((marks k j ++ xs.drop j).map (Value.int .i64)) ∧ w.grownBy wr (Value.slice A xs.length c).ownBlock) (fun _ i _ => xs.length - (intOf i).toNat)
  case atStart => exact ⟨0, Nat.zero_le _, rfl, by simp, hx, World.grownBy.refl _ _⟩
  case round =>
    clear hx
    obtain ⟨j, hj, rfl, rfl, hown, hg⟩ := hrel
    rcases Nat.lt_or_ge j xs.length with hlt | hge
    · obtain ⟨g, cap, hv, _, _⟩ := hown.form (by omega)
      have hA : A = some ⟨g, 0, none⟩ := by injection hv
      subst hA
      clear hv
      have hcell := hown.cellAt j (by omega)
      have hold : ((marks k j ++ xs.drop j).map (Value.int .i64))[j]? = some (.int .i64 xs[j]) := by
        simp [List.getElem?_append, marks, hlt]
      rw [hold] at hcell
      have hfr := hown.frozenAt j
      have hst := hown.stored j (.int .i64 (k + j))
      rw [marked_step k xs j hlt] at hst
      have hst2 := Lib.hid hst
      have hg2 := Lib.hid hg
      clear hown hst hold hg
      go_wp2
      go_roundw
      case rel => exact ⟨j + 1, by omega, by go_num, by go_num, hst2.out.1, grown_trans hg2.out hst2.out.2⟩
      case measure => simp [intOf]; omega
    · obtain rfl : j = xs.length := by omega
      simp only [List.drop_length, List.append_nil] at hown
      go_wp2
      go_ret
      exact ⟨rfl, hown, hg⟩

theorem eqIntS_same (A A' : Option Addr) (c c' : Nat) (xs : List Int) (w : World) (hl : xs.length ≤ 4611686018427387904)
    (hx : Rd (Value.int .i64) w w.heap.size A xs) (hy : Rd (Value.int .i64) w w.heap.size A' xs) :
    Calls Tryd.prog 14 #[.slice A xs.length c, .slice A' xs.length c'] w (Rb w (.bool true)) :=
  (eqIntS_any A A' c c' xs xs w hl hx hy).mono fun e w' h => by
    have := h.b
    simpa using this

/-- Two slices of the call's own, the later one made when the earlier one was there. -/
theorem own_apart {w : World} {base e n : Nat} {v : Value} {vs : List Value} (h : w.ownsRow base e 1 v n vs) {row : Option Nat} (hr : ∀ g, row = some g → g < base) : v.ownBlock = none ∨ v.ownBlock ≠ row := by
  rcases hv : v.ownBlock with _ | k
  · exact .inl rfl
  · have := (h.lt k hv).1
    refine .inr fun he => ?_
    have := hr k he.symm
    omega
end Go.Proofs.YtodokdddcikhdaaDoor
