/- BasisUpTo of the program. -/
import Derived.Test.YthkggnmfdlggbaaU3
namespace Go.Proofs.Ythkggnmfdlggbaa
set_option maxRecDepth 100000
open Go Go.RowKit

theorem allPerm_true {X : List (List Int)} (h : allPermB X = true) : ∀ q ∈ X, permB q = true := fun q hq => by
  unfold allPermB at h
  have h1 : (X.any fun p => !permB p) = false := by simpa using h
  have h2 := List.any_eq_false.1 h1 q hq
  simpa using h2
theorem allPerm_of {X : List (List Int)} (h : ∀ q ∈ X, permB q = true) : allPermB X = true := by
  unfold allPermB
  rw [show (X.any fun p => !permB p) = false from List.any_eq_false.2 fun q hq => by rw [h q hq]; simp]; rfl
set_option maxHeartbeats 1000000 in
theorem basisUpTo_impl (A : Option Addr) (c : Nat) (qs : List Row) (n : Int) (_ : -9223372036854775808 ≤ n ∧ n ≤ 9223372036854775807) (w : World) (h : InL w A c qs) :
    Calls Try.prog 36 #[.slice A qs.length c, .int .i64 n] w (RetL w (bupG (qs.map Row.xs) n)) := by
  by_cases hA : allPermB (qs.map Row.xs) = true
  · have H1 := Lib.hid hA
    by_cases h6 : sixB n = true
    · have HG := Lib.hid (show bupG (qs.map Row.xs) n = bupL (qs.map Row.xs) n.toNat by unfold bupG; rw [if_pos ⟨hA, h6⟩])
      have h6' : 0 ≤ n ∧ n ≤ 6 := by simpa [sixB] using h6
      obtain ⟨N, rfl⟩ := Int.eq_ofNat_of_zero_le h6'.1
      have H6 := Lib.hid h6
      have HP := Lib.hid (show ∀ r ∈ qs, permB r.xs = true from fun r hr => allPerm_true hA r.xs (List.mem_map.2 ⟨r, hr, rfl⟩))
      have hN : N ≤ 6 := by omega
      clear hA h6 h6'
      go_enter Try.func36, Try.ntmps36
      go_wp2_with fail
      (with_reducible refine (arePerms_b A c qs w true h H1.out).mono ?_)
      rintro e w1 ⟨rfl, hb1⟩
      go_wp2_with fail
      (with_reducible refine (isSix_any (N : Int) w1 true H6.out).mono ?_)
      rintro e w' ⟨rfl, rfl⟩
      have HI := Lib.hid (basisUpToI A c qs N w1 (h.next hb1) HP.out hN)
      go_wp2_with fail
      (with_reducible refine HI.out.mono ?_)
      rintro e w2 ⟨A2, c2, ds, rfl, hX, hO, hb2⟩
      go_wp2_with fail
      go_ret
      rw [HG.out]
      exact ⟨A2, c2, ds, rfl, hX, hO.wider hb1.size (Nat.le_refl _), hb1.trans (hb2.mono hb1.size)⟩
    · have h6f : sixB n = false := by simpa using h6
      have H6 := Lib.hid h6f
      have HG := Lib.hid (show bupG (qs.map Row.xs) n = [] by unfold bupG; rw [if_neg]; exact fun h => h6 h.2)
      clear hA h6 h6f
      go_enter Try.func36, Try.ntmps36
      go_wp2_with fail
      (with_reducible refine (arePerms_b A c qs w true h H1.out).mono ?_)
      rintro e w1 ⟨rfl, hb1⟩
      go_wp2_with fail
      (with_reducible refine (isSix_any n w1 false H6.out).mono ?_)
      rintro e w' ⟨rfl, rfl⟩
      go_wp2_with fail
      go_ret
      rw [HG.out]
      exact ⟨none, 0, [], rfl, rfl, Own.nil_list _ _ _, hb1⟩
  · have hAf : allPermB (qs.map Row.xs) = false := by simpa using hA
    have H1 := Lib.hid hAf
    have HG := Lib.hid (show bupG (qs.map Row.xs) n = [] by unfold bupG; rw [if_neg]; exact fun h => hA h.1)
    clear hA hAf
    go_enter Try.func36, Try.ntmps36
    go_wp2_with fail
    (with_reducible refine (arePerms_b A c qs w false h H1.out).mono ?_)
    rintro e w1 ⟨rfl, hb1⟩
    go_wp2_with fail
    go_ret
    rw [HG.out]
    exact ⟨none, 0, [], rfl, rfl, Own.nil_list _ _ _, hb1⟩
end Go.Proofs.Ythkggnmfdlggbaa
