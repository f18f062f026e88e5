/- Contracts of Choose and CountAlternating, program and reference. -/
import Derived.Test.YthipikllgpnlhaaHlp2
namespace Go.Proofs.Ythipikllgpnlhaa
set_option maxRecDepth 100000
open Go Go.RowKit

set_option maxHeartbeats 400000 in
theorem l1In_any (x lo hi : Int) (w : World) :
    Calls Try.prog 87 #[.int .i64 x, .int .i64 lo, .int .i64 hi] w fun e w' => e = .returned (.bool (decide (lo ≤ x ∧ x ≤ hi))) ∧ w = w' := by
  by_cases h1 : lo ≤ x
  · go_enter Try.func87, Try.ntmps87
    go_wp2
    go_ret
    exact ⟨ret_bool (by simp [h1]), rfl⟩
  · go_enter Try.func87, Try.ntmps87
    go_wp2
    go_ret
    exact ⟨ret_bool (by simp; omega), rfl⟩

def chooseL (n : Int) : Nat → Int
  | 0 => 1
  | k + 1 => wrap64 ((wrap64 (chooseL n k * (n - k))).tdiv (k + 1))

def chooseG (n k : Int) : Int := if 0 ≤ n ∧ n ≤ 40 ∧ 0 ≤ k ∧ k ≤ n then chooseL n k.toNat else 0

set_option maxHeartbeats 400000 in
theorem choose_spec (n k : Int) (w : World) :
    Calls Try.prog 65 #[.int .i64 n, .int .i64 k] w fun e w' => e = .returned (.int .i64 (chooseG n k)) ∧ w = w' := by
  by_cases h1 : 0 ≤ n ∧ n ≤ 40
  · by_cases h2 : 0 ≤ k ∧ k ≤ n
    · have d1 : decide (0 ≤ n ∧ n ≤ 40) = true := by simp [h1]
      have d2 : decide (0 ≤ k ∧ k ≤ n) = true := by simp [h2]
      obtain ⟨a1, a2⟩ := h1
      obtain ⟨a3, a4⟩ := h2
      have hv : chooseG n k = chooseL n k.toNat := by rw [chooseG, if_pos ⟨a1, a2, a3, a4⟩]
      obtain ⟨m, rfl⟩ := Int.eq_ofNat_of_zero_le a3
      rw [Int.toNat_natCast] at hv
      have HV := Lib.hid hv
      clear hv
      go_enter Try.func65, Try.ntmps65
      go_wp2_with (go_at_call 87; refine (l1In_any _ _ _ _).mono ?_; rintro e w' ⟨rfl, rfl⟩)
      go_loop [5, 6] (fun o i => ∃ j : Nat, j ≤ m ∧ i = .int .i64 j ∧ o = .int .i64 (chooseL n j)) (fun _ i => m - (intOf i).toNat)
      case atStart => exact ⟨0, Nat.zero_le _, rfl, rfl⟩
      case round =>
        obtain ⟨j, hj, rfl, rfl⟩ := hrel
        rcases Nat.lt_or_ge j m with hlt | hge
        · go_wp2
          go_round
          case rel => exact ⟨j + 1, by omega, by go_num, rfl⟩
          case measure => simp [intOf]; omega
        · obtain rfl : j = m := by omega
          go_wp2
          go_ret
          exact ⟨ret_int HV.out.symm, rfl⟩
    · have d1 : decide (0 ≤ n ∧ n ≤ 40) = true := by simp [h1]
      have d2 : decide (0 ≤ k ∧ k ≤ n) = false := by rw [decide_eq_false_iff_not]; exact h2
      have HV := Lib.hid (show chooseG n k = 0 by rw [chooseG, if_neg (by omega)])
      clear h1 h2
      go_enter Try.func65, Try.ntmps65
      go_wp2_with (go_at_call 87; refine (l1In_any _ _ _ _).mono ?_; rintro e w' ⟨rfl, rfl⟩)
      go_ret
      exact ⟨ret_int HV.out.symm, rfl⟩
  · have d1 : decide (0 ≤ n ∧ n ≤ 40) = false := by rw [decide_eq_false_iff_not]; exact h1
    have HV := Lib.hid (show chooseG n k = 0 by rw [chooseG, if_neg (by omega)])
    clear h1
    go_enter Try.func65, Try.ntmps65
    go_wp2_with (go_at_call 87; refine (l1In_any _ _ _ _).mono ?_; rintro e w' ⟨rfl, rfl⟩)
    go_ret
    exact ⟨ret_int HV.out.symm, rfl⟩

set_option maxHeartbeats 400000 in
theorem choose_impl (n k : Int) (w : World) :
    Calls Try.prog 64 #[.int .i64 n, .int .i64 k] w fun e w' => e = .returned (.int .i64 (chooseG n k)) ∧ w = w' := by
  by_cases h : 0 ≤ n ∧ n ≤ 40 ∧ 0 ≤ k ∧ k ≤ n
  · obtain ⟨a1, a2, a3, a4⟩ := h
    have hv : chooseG n k = chooseL n k.toNat := by rw [chooseG, if_pos ⟨a1, a2, a3, a4⟩]
    obtain ⟨m, rfl⟩ := Int.eq_ofNat_of_zero_le a3
    rw [Int.toNat_natCast] at hv
    have HV := Lib.hid hv
    clear hv
    go_enter Try.func64, Try.ntmps64
    go_wp2
    go_loop [5, 23] (fun o i => ∃ j : Nat, j ≤ m ∧ i = .int .i64 j ∧ o = .int .i64 (chooseL n j)) (fun _ i => m - (intOf i).toNat)
    case atStart => exact ⟨0, Nat.zero_le _, rfl, rfl⟩
    case round =>
      obtain ⟨j, hj, rfl, rfl⟩ := hrel
      rcases Nat.lt_or_ge j m with hlt | hge
      · go_wp2
        go_round
        case rel => exact ⟨j + 1, by omega, by go_num, rfl⟩
        case measure => simp [intOf]; omega
      · obtain rfl : j = m := by omega
        go_wp2
        go_ret
        exact ⟨ret_int HV.out.symm, rfl⟩
  · have HV := Lib.hid (show chooseG n k = 0 by rw [chooseG, if_neg h])
    by_cases h1 : n < 0
    · clear h
      go_enter Try.func64, Try.ntmps64
      go_wp2
      go_ret
      exact ⟨ret_int HV.out.symm, rfl⟩
    · by_cases h2 : 40 < n
      · clear h
        go_enter Try.func64, Try.ntmps64
        go_wp2
        go_ret
        exact ⟨ret_int HV.out.symm, rfl⟩
      · by_cases h3 : k < 0
        · clear h
          go_enter Try.func64, Try.ntmps64
          go_wp2
          go_ret
          exact ⟨ret_int HV.out.symm, rfl⟩
        · have h4 : n < k := by omega
          clear h
          go_enter Try.func64, Try.ntmps64
          go_wp2
          go_ret
          exact ⟨ret_int HV.out.symm, rfl⟩

end Go.Proofs.Ythipikllgpnlhaa
