/- Contracts of the laws' own helpers: toIntS copies, eqIntS compares, markIntS writes numbers, heldIntS reads them. -/
import Derived.Test.YtodokdddcikhdaaDoorProg
import Derived.Test.YtodokdddcikhdaaDoorBase
namespace Go.Proofs.YtodokdddcikhdaaDoor
set_option maxRecDepth 100000
open Go Go.RowKit

theorem infoI : (Tryd.prog.info? 3).map (fun i => (i.zero, i.size, i.bytes)) = some (some (.int .i64 0), 1, 8) := by kernel_rfl

/-! eqIntS -/
set_option maxHeartbeats 400000 in
theorem eqIntS_any (A A' : Option Addr) (c c' : Nat) (xs ys : List Int) (w : World) (hl : xs.length ≤ 4611686018427387904)
    (hx : Rd (Value.int .i64) w w.heap.size A xs) (hy : Rd (Value.int .i64) w w.heap.size A' ys) :
    Calls Tryd.prog 14 #[.slice A xs.length c, .slice A' ys.length c'] w (Rq w (.bool (decide (xs = ys)))) := by
  by_cases hne : xs.length = ys.length
  · go_enter Tryd.func14, Tryd.ntmps14
    have hb : ((xs.length : Int) != (ys.length : Int)) = false := by simp [hne]
    go_wp2
    go_loopw [5] (fun i wr => ∃ k : Nat, k ≤ xs.length ∧ i = .int .i64 k ∧ xs.take k = ys.take k ∧ Dr w wr) (fun i _ => xs.length - (intOf i).toNat)
    case atStart => exact ⟨0, Nat.zero_le _, rfl, rfl, Dr.refl _⟩
    case round =>
      obtain ⟨k, hk, rfl, ht, n, rfl⟩ := hrel
      rcases Nat.lt_or_ge k xs.length with hlt | hge
      · obtain ⟨b, off, rfl, hbb, hcx⟩ := hx (by omega)
        obtain ⟨b', off', rfl, hbb', hcy⟩ := hy (by omega)
        have hk2 : k < ys.length := by omega
        have hcxk := hcx k hlt
        have hcyk := hcy k hk2
        have hT := Lib.hid ht
        clear ht hcx hcy hne
        by_cases hd : xs[k] = ys[k]
        · have hdd : (xs[k] != ys[k]) = false := by simp [hd]
          have hD := Lib.hid hd
          clear hd
          go_wp2
          go_quiet (fail)
          go_wp2
          go_roundw
          case rel => exact ⟨k + 1, by omega, by go_num, by rw [List.take_succ_eq_append_getElem hlt, List.take_succ_eq_append_getElem hk2, hT.out, hD.out], (by first | with_reducible exact Dr.of _ _ | with_reducible exact Dr.of2 _ _ _ | with_reducible exact Dr.refl _ | with_reducible exact Dr.of3 _ _ _)⟩
          case measure => simp [intOf]; omega
        · have hdd : (xs[k] != ys[k]) = true := by simp [hd]
          have hD := Lib.hid hd
          clear hd
          go_wp2
          go_quiet (fail)
          go_wp2
          go_ret
          exact ⟨ret_bool (by symm; rw [decide_eq_false_iff_not]; intro h; exact hD.out (by simp [h])), (by first | with_reducible exact Dr.of _ _ | with_reducible exact Dr.of2 _ _ _ | with_reducible exact Dr.refl _ | with_reducible exact Dr.of3 _ _ _)⟩
      · have hT := Lib.hid ht
        clear ht
        go_wp2
        go_ret
        exact ⟨ret_bool (by symm; rw [decide_eq_true_eq]; have := hT.out; rwa [List.take_of_length_le hge, List.take_of_length_le (by omega)] at this), (by first | with_reducible exact Dr.of _ _ | with_reducible exact Dr.of2 _ _ _ | with_reducible exact Dr.refl _ | with_reducible exact Dr.of3 _ _ _)⟩
  · have hb : ((xs.length : Int) != (ys.length : Int)) = true := by simp; omega
    go_enter Tryd.func14, Tryd.ntmps14
    go_wp2
    go_ret
    exact ⟨ret_bool (by symm; rw [decide_eq_false_iff_not]; intro h; exact hne (by rw [h])), Dr.refl _⟩

/-! heldIntS: -1, or the next number -/
def marks (k : Int) (n : Nat) : List Int := (List.range n).map fun i : Nat => k + i

theorem marks_length (k : Int) (n : Nat) : (marks k n).length = n := by simp [marks]
theorem marks_get (k : Int) (n i : Nat) (h : i < (marks k n).length) : (marks k n)[i] = k + i := by simp [marks]

set_option maxHeartbeats 400000 in
theorem heldIntS_marks (A : Option Addr) (c : Nat) (k : Int) (n : Nat) (w : World) (hk : 0 ≤ k ∧ k + n ≤ 4611686018427387904)
    (hx : Rd (Value.int .i64) w w.heap.size A (marks k n)) :
    Calls Tryd.prog 16 #[.slice A n c, .int .i64 k] w fun e w' => e = .returned (.int .i64 (k + n)) ∧ w = w' := by
  go_enter Tryd.func16, Tryd.ntmps16
  go_wp2
  go_loop [1, 5] (fun q i => ∃ j : Nat, j ≤ n ∧ i = .int .i64 j ∧ q = .int .i64 (k + j)) (fun _ i => n - (intOf i).toNat)
  case atStart => exact ⟨0, Nat.zero_le _, rfl, by simp⟩
  case round =>
    obtain ⟨j, hj, rfl, rfl⟩ := hrel
    rcases Nat.lt_or_ge j n with hlt | hge
    · obtain ⟨b, off, rfl, hbb, hcx⟩ := hx (by rw [marks_length]; omega)
      have hc := hcx j (by rw [marks_length]; omega)
      rw [marks_get] at hc
      clear hcx
      go_wp2
      go_round
      case rel => exact ⟨j + 1, by omega, by go_num, by go_num⟩
      case measure => simp [intOf]; omega
    · obtain rfl : j = n := by omega
      go_wp2
      go_ret
      exact ⟨rfl, rfl⟩

end Go.Proofs.YtodokdddcikhdaaDoor
