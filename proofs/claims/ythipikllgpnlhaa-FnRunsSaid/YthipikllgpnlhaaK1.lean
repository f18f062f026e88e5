/- Comparisons: cmp.Compare, slices.Compare, the reference's l2Before. -/
import Derived.Test.YthipikllgpnlhaaR2
import Derived.Test.YthipikllgpnlhaaC2
namespace Go.Proofs.Ythipikllgpnlhaa
set_option maxRecDepth 100000
open Go Go.RowKit

/-- The order of two numbers. -/
def cmpI (x y : Int) : Int := if x < y then -1 else if y < x then 1 else 0
/-- The order of two lists, letter by letter. -/
def cmpL : List Int → List Int → Int
  | [], [] => 0
  | [], _ :: _ => -1
  | _ :: _, [] => 1
  | x :: s, y :: t => if x < y then -1 else if y < x then 1 else cmpL s t
theorem cmpL_drop (xs ys : List Int) (k : Nat) (h : xs.take k = ys.take k) (hk : k ≤ xs.length) (hk' : k ≤ ys.length) : cmpL xs ys = cmpL (xs.drop k) (ys.drop k) := by
  induction k generalizing xs ys with
  | zero => simp
  | succ k ih =>
    match xs, ys with
    | [], _ => simp at hk
    | _ :: _, [] => simp at hk'
    | x :: s, y :: t =>
      simp only [List.take_succ_cons, List.cons.injEq] at h
      obtain ⟨rfl, h⟩ := h
      simp only [cmpL, Int.lt_irrefl, if_false, List.drop_succ_cons]
      exact ih s t h (by simpa using hk) (by simpa using hk')
theorem cmpL_at (xs ys : List Int) (k : Nat) (h : xs.take k = ys.take k) (hk : k < xs.length) (hk' : k < ys.length) (hne : xs[k] ≠ ys[k]) : cmpL xs ys = cmpI xs[k] ys[k] := by
  rw [cmpL_drop xs ys k h (by omega) (by omega), List.drop_eq_getElem_cons hk, List.drop_eq_getElem_cons hk', cmpL, cmpI]
  split
  · rfl
  · split
    · rfl
    · omega

theorem isNaN_any (x : Int) (w : World) : Calls Try.prog 145 #[.int .i64 x] w fun e w' => e = .returned (.bool false) ∧ w = w' := by
  go_enter Try.func145, Try.ntmps145
  go_wp2
  go_ret
  exact ⟨ret_bool (by simp), rfl⟩
theorem compare_any (x y : Int) (w : World) : Calls Try.prog 126 #[.int .i64 x, .int .i64 y] w fun e w' => e = .returned (.int .i64 (cmpI x y)) ∧ w = w' := by
  rcases Int.lt_or_le x y with h | h
  · have H := Lib.hid (show cmpI x y = -1 by unfold cmpI; rw [if_pos h])
    have d1 : decide (x < y) = true := decide_eq_true h
    clear h
    go_enter Try.func126, Try.ntmps126
    go_wp2_with (go_at_call 145; refine (isNaN_any _ _).mono ?_; rintro e w' ⟨rfl, rfl⟩)
    go_ret
    exact ⟨ret_int H.out.symm, rfl⟩
  · have d1 : decide (x < y) = false := decide_eq_false (by omega)
    rcases Int.lt_or_le y x with h' | h'
    · have H := Lib.hid (show cmpI x y = 1 by unfold cmpI; rw [if_neg (by omega), if_pos h'])
      have d2 : decide (y < x) = true := decide_eq_true h'
      have d2' : decide (x > y) = true := decide_eq_true h'
      clear h h'
      go_enter Try.func126, Try.ntmps126
      go_wp2_with (go_at_call 145; refine (isNaN_any _ _).mono ?_; rintro e w' ⟨rfl, rfl⟩)
      go_ret
      exact ⟨ret_int H.out.symm, rfl⟩
    · have H := Lib.hid (show cmpI x y = 0 by unfold cmpI; rw [if_neg (by omega), if_neg (by omega)])
      have d2 : decide (y < x) = false := decide_eq_false (by omega)
      have d2' : decide (x > y) = false := decide_eq_false (by omega)
      clear h h'
      go_enter Try.func126, Try.ntmps126
      go_wp2_with (go_at_call 145; refine (isNaN_any _ _).mono ?_; rintro e w' ⟨rfl, rfl⟩)
      go_ret
      exact ⟨ret_int H.out.symm, rfl⟩
theorem cmpI_zero (x y : Int) : cmpI x y = 0 ↔ x = y := by
  unfold cmpI; split
  · constructor <;> intro h <;> omega
  · split
    · constructor <;> intro h <;> omega
    · constructor <;> intro h <;> omega

set_option maxHeartbeats 1000000 in
theorem compareS_any (A A' : Option Addr) (c c' n m : Nat) (xs ys : List Int) (w : World) (hn : xs.length = n) (hm : ys.length = m) (hl : n ≤ 4611686018427387904) (hl' : m ≤ 4611686018427387904)
    (hx : Rd (Value.int .i64) w w.heap.size A xs) (hy : Rd (Value.int .i64) w w.heap.size A' ys) :
    Calls Try.prog 82 #[.slice A n c, .slice A' m c'] w fun e w' => e = .returned (.int .i64 (cmpL xs ys)) ∧ w = w' := by
  subst hn hm
  go_enter Try.func82, Try.ntmps82
  go_wp2
  go_loop [11] (fun i => ∃ k : Nat, k ≤ xs.length ∧ k ≤ ys.length ∧ i = .int .i64 k ∧ xs.take k = ys.take k) (fun i => xs.length - (intOf i).toNat)
  case atStart => exact ⟨0, Nat.zero_le _, Nat.zero_le _, rfl, rfl⟩
  case round =>
    obtain ⟨k, hk, hk', rfl, ht⟩ := hrel
    by_cases hlt : k < xs.length
    · by_cases hlt' : k < ys.length
      · obtain ⟨b, off, rfl, _, hc⟩ := hx (by omega)
        obtain ⟨b', off', rfl, _, hc'⟩ := hy (by omega)
        have c1 := hc k hlt
        have c2 := hc' k hlt'
        clear hc hc'
        have HT := Lib.hid ht
        clear ht
        by_cases he : xs[k] = ys[k]
        · have hz : (cmpI xs[k] ys[k] != 0) = false := by simp [(cmpI_zero _ _).2 he]
          have HE := Lib.hid he
          clear he
          go_wp2_with (go_at_call 126; refine (compare_any _ _ _).mono ?_; rintro e w' ⟨rfl, rfl⟩)
          go_round
          case rel => exact ⟨k + 1, by omega, by omega, by go_num, by rw [List.take_succ_eq_append_getElem hlt, List.take_succ_eq_append_getElem hlt', HT.out, HE.out]⟩
          case measure => simp [intOf]; omega
        · have hz : (cmpI xs[k] ys[k] != 0) = true := by simp; exact fun h => he ((cmpI_zero _ _).1 h)
          have HC := Lib.hid (cmpL_at xs ys k HT.out hlt hlt' he)
          clear he
          go_wp2_with (go_at_call 126; refine (compare_any _ _ _).mono ?_; rintro e w' ⟨rfl, rfl⟩)
          go_ret
          exact ⟨ret_int HC.out.symm, rfl⟩
      · obtain ⟨b, off, rfl, _, hc⟩ := hx (by omega)
        have c1 := hc k hlt
        have HC := Lib.hid (show cmpL xs ys = 1 by
          rw [cmpL_drop xs ys k ht hk hk', List.drop_eq_getElem_cons hlt, (show ys.drop k = [] from List.drop_eq_nil_of_le (by omega))]; rfl)
        clear hc ht
        go_wp2
        go_ret
        exact ⟨ret_int HC.out.symm, rfl⟩
    · by_cases hlt' : k < ys.length
      · have HC := Lib.hid (show cmpL xs ys = -1 by
          rw [cmpL_drop xs ys k ht hk hk', List.drop_eq_getElem_cons hlt', (show xs.drop k = [] from List.drop_eq_nil_of_le (by omega))]; rfl)
        have d1 : decide ((xs.length : Int) < ys.length) = true := decide_eq_true (by omega)
        clear ht
        go_wp2
        go_ret
        exact ⟨ret_int HC.out.symm, rfl⟩
      · have HC := Lib.hid (show cmpL xs ys = 0 by
          rw [cmpL_drop xs ys k ht hk hk', (show xs.drop k = [] from List.drop_eq_nil_of_le (by omega)), (show ys.drop k = [] from List.drop_eq_nil_of_le (by omega))]; rfl)
        have d1 : decide ((xs.length : Int) < ys.length) = false := decide_eq_false (by omega)
        clear ht
        go_wp2
        go_ret
        exact ⟨ret_int HC.out.symm, rfl⟩
theorem compareS_q (A A' : Option Addr) (c c' n m : Nat) (xs ys : List Int) (w : World) (hn : xs.length = n) (hm : ys.length = m) (hl : n ≤ 4611686018427387904) (hl' : m ≤ 4611686018427387904)
    (hx : Rd (Value.int .i64) w w.heap.size A xs) (hy : Rd (Value.int .i64) w w.heap.size A' ys) :
    Calls Try.prog 82 #[.slice A n c, .slice A' m c'] w (Rq w (.int .i64 (cmpL xs ys))) :=
  (compareS_any A A' c c' n m xs ys w hn hm hl hl' hx hy).mono fun _ _ ⟨he, hw⟩ => ⟨he, by subst hw; exact Dr.refl _⟩

/-- The reference's order: the shorter first, then letter by letter. -/
def before (xs ys : List Int) : Bool := if xs.length = ys.length then decide (cmpL xs ys < 0) else decide (xs.length < ys.length)
set_option maxHeartbeats 1000000 in
theorem l2Before_any (A A' : Option Addr) (c c' n m : Nat) (xs ys : List Int) (w : World) (hn : xs.length = n) (hm : ys.length = m) (hl : n ≤ 4611686018427387904) (hl' : m ≤ 4611686018427387904)
    (hx : Rd (Value.int .i64) w w.heap.size A xs) (hy : Rd (Value.int .i64) w w.heap.size A' ys) :
    Calls Try.prog 88 #[.slice A n c, .slice A' m c'] w (Rq w (.bool (before xs ys))) := by
  subst hn hm
  by_cases hne : xs.length = ys.length
  · have HB := Lib.hid (show before xs ys = decide (cmpL xs ys < 0) by unfold before; rw [if_pos hne])
    go_enter Try.func88, Try.ntmps88
    have hb : ((xs.length : Int) != (ys.length : Int)) = false := by simp [hne]
    have HN := Lib.hid hne
    clear hne
    go_wp2
    go_loopw [5] (fun i wr => ∃ k : Nat, k ≤ xs.length ∧ i = .int .i64 k ∧ xs.take k = ys.take k ∧ Dr w wr) (fun i _ => xs.length - (intOf i).toNat)
    case atStart => exact ⟨0, Nat.zero_le _, rfl, rfl, Dr.refl _⟩
    case round =>
      obtain ⟨k, hk, rfl, ht, hd⟩ := hrel
      by_cases hlt : k < xs.length
      · have hlt' : k < ys.length := by have := HN.out; omega
        obtain ⟨b, off, rfl, _, hc⟩ := hx (by omega)
        obtain ⟨b', off', rfl, _, hc'⟩ := hy (by omega)
        have c1 : wr.cell? ⟨b, off + k, none⟩ = some (.int .i64 xs[k]) := (hd.cell _).trans (hc k hlt)
        have c2 : wr.cell? ⟨b', off' + k, none⟩ = some (.int .i64 ys[k]) := (hd.cell _).trans (hc' k hlt')
        have HT := Lib.hid ht
        clear hc hc' ht
        by_cases he : xs[k] = ys[k]
        · have hz : (xs[k] != ys[k]) = false := by simp [he]
          have HE := Lib.hid he
          clear he
          go_wp2
          go_quiet (fail)
          go_wp2
          go_roundw
          case rel => exact ⟨k + 1, by omega, by go_num, by rw [List.take_succ_eq_append_getElem hlt, List.take_succ_eq_append_getElem hlt', HT.out, HE.out], (by first | with_reducible assumption | with_reducible exact hd | with_reducible exact Dr.drewN hd _ | with_reducible exact Dr.drewN (Dr.drewN hd _) _ | with_reducible exact Dr.drew hd)⟩
          case measure => simp [intOf]; omega
        · have hz : (xs[k] != ys[k]) = true := by simp [he]
          have HC := Lib.hid (show before xs ys = decide (xs[k] < ys[k]) by
            rw [HB.out, cmpL_at xs ys k HT.out hlt hlt' he, Bool.eq_iff_iff, decide_eq_true_eq, decide_eq_true_eq]
            unfold cmpI; split
            · constructor <;> intro h <;> omega
            · split
              · constructor <;> intro h <;> omega
              · constructor <;> intro h <;> omega)
          clear he
          go_wp2
          go_quiet (fail)
          go_wp2
          go_quiet (fail)
          go_wp2
          go_ret
          exact ⟨ret_bool HC.out.symm, (by first | with_reducible assumption | with_reducible exact hd | with_reducible exact Dr.drewN hd _ | with_reducible exact Dr.drewN (Dr.drewN hd _) _ | with_reducible exact Dr.drew hd)⟩
      · have HC := Lib.hid (show before xs ys = false by
          have := HN.out
          rw [HB.out, cmpL_drop xs ys k ht hk (by omega), (show xs.drop k = [] from List.drop_eq_nil_of_le (by omega)), (show ys.drop k = [] from List.drop_eq_nil_of_le (by omega))]; rfl)
        clear ht
        go_wp2
        go_ret
        exact ⟨ret_bool HC.out.symm, hd⟩
  · have HB := Lib.hid (show before xs ys = decide (xs.length < ys.length) by unfold before; rw [if_neg hne])
    have hb : ((xs.length : Int) != (ys.length : Int)) = true := by simp; omega
    go_enter Try.func88, Try.ntmps88
    go_wp2
    go_ret
    exact ⟨ret_bool (by rw [HB.out]), Dr.refl _⟩
end Go.Proofs.Ythipikllgpnlhaa
