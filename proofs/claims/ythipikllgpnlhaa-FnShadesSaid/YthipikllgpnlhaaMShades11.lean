/- Several texts in one, each with its own head: P4, E1. No program of ours. -/
import Derived.Test.YthipikllgpnlhaaMShades10
/- Contracts of IsAlternating, CountInversions, CountCycles, program and reference. -/
namespace Go.Proofs.Ythipikllgpnlhaa
set_option maxRecDepth 100000
open Go Go.RowKit

def turnAt (xs : List Int) (i : Nat) : Bool := decide (xs[i]?.getD 0 < xs[i - 1]?.getD 0) == decide (i % 2 = 1)
/-- The turns at the places 1 .. k-1 are right. -/
def turnsTo (xs : List Int) (k : Nat) : Bool := (List.range k).all fun i => i == 0 || turnAt xs i
theorem turnsTo_succ (xs : List Int) (k : Nat) (h : 0 < k) : turnsTo xs (k + 1) = (turnsTo xs k && turnAt xs k) := by
  have : (k == 0) = false := by simp; omega
  simp [turnsTo, List.range_succ, this]
theorem turnsTo_false {xs : List Int} {k n : Nat} (h : k < n) (h0 : 0 < k) (ht : turnAt xs k = false) : turnsTo xs n = false := by
  unfold turnsTo
  rw [List.all_eq_false]
  have : (k == 0) = false := by simp; omega
  exact ⟨k, List.mem_range.2 h, by simp [ht, this]⟩
def altG2 (xs : List Int) : Bool := permB xs && turnsTo xs xs.length

set_option maxHeartbeats 1000000 in
theorem alternates_impl (A : Option Addr) (c : Nat) (xs : List Int) (w : World) (h : In w A c xs) :
    Calls Try.prog 60 #[.slice A xs.length c] w (Rb w (.bool (altG2 xs))) := by
  by_cases hp : permB xs = true
  · have HP := Lib.hid hp
    have h8 := (permB_true hp).1
    go_enter Try.func60, Try.ntmps60
    go_wp2_with fail
    refine (isPerm_impl _ _ _ _ h).mono ?_
    rintro e w1 ⟨rfl, hb1⟩
    rw [hp]
    clear hp
    have hx := (h.next hb1).rd
    go_wp2_with fail
    go_loopw [3] (fun i wr => ∃ k : Nat, 1 ≤ k ∧ (k ≤ xs.length ∨ k = 1) ∧ i = .int .i64 k ∧ turnsTo xs k = true ∧ Dr w1 wr) (fun i _ => xs.length - (intOf i).toNat)
    case atStart => exact ⟨1, Nat.le_refl _, .inr rfl, rfl, rfl, Dr.refl _⟩
    case round =>
      obtain ⟨k, h0, hk, rfl, hall, hd⟩ := hrel
      have HA := Lib.hid hall
      have HK := Lib.hid hk
      clear hall hk
      by_cases hlt : k < xs.length
      · obtain ⟨b, off, rfl, _, hc⟩ := hx (by omega)
        have c1 : wr.cell? ⟨b, off + k, none⟩ = some (.int .i64 xs[k]) := (hd.cell _).trans (hc k hlt)
        have c2 : wr.cell? ⟨b, off + (k - 1), none⟩ = some (.int .i64 (xs[k - 1]'(by omega))) := (hd.cell _).trans (hc (k - 1) (by omega))
        have e1 : IntKind.i64.wrap ((k : Int) - 1) = (k : Int) - 1 := IntWalk.i64_in _ (by omega)
        have e2 : ((k : Int) - 1).toNat = k - 1 := by omega
        have e3 : 0 ≤ (k : Int) - 1 := by omega
        have e4 : (k : Int) - 1 < (xs.length : Int) := by omega
        have e5 : 1 ≤ (k : Int) := by omega
        have e6 : (k : Int) ≤ (xs.length : Int) := by omega
        have e7 : (k : Int).tmod 2 = (k : Int) % 2 := IntWalk.rem_in _ _ (by omega)
        have e8 : IntKind.i64.wrap ((k : Int) % 2) = (k : Int) % 2 := IntWalk.i64_in _ (by omega)
        have HTA := Lib.hid (show turnAt xs k = (decide (xs[k] < xs[k - 1]'(by omega)) == decide (k % 2 = 1)) by unfold turnAt; rw [List.getElem?_eq_getElem hlt, List.getElem?_eq_getElem (show k - 1 < xs.length by omega)]; rfl)
        have HM : decide (k % 2 = 1) = ((k : Int) % 2 == 1) := by rw [Bool.eq_iff_iff]; simp; omega
        have HM2 := Lib.hid HM
        clear hc HM
        by_cases ht2 : (decide (xs[k] < xs[k - 1]'(by omega)) == ((k : Int) % 2 == 1)) = true
        · have HT := Lib.hid (show turnsTo xs (k + 1) = true by rw [turnsTo_succ xs k h0, HA.out, HTA.out, HM2.out, ht2]; rfl)
          go_wp2
          go_quiet (fail)
          go_wp2
          go_roundw
          case rel => exact ⟨k + 1, by omega, .inl (by omega), by go_num, HT.out, (by first | with_reducible assumption | with_reducible exact hd | with_reducible exact Dr.drewN hd _ | with_reducible exact Dr.drewN (Dr.drewN hd _) _ | with_reducible exact Dr.drew hd)⟩
          case measure => simp [intOf]; omega
        · have ht : (decide (xs[k] < xs[k - 1]'(by omega)) == ((k : Int) % 2 == 1)) = false := by simpa using ht2
          have HT := Lib.hid (show turnAt xs k = false by rw [HTA.out, HM2.out, ht])
          clear ht2
          go_wp2
          go_quiet (fail)
          go_wp2
          go_ret
          exact ⟨ret_bool (by rw [altG2, turnsTo_false hlt h0 HT.out, Bool.and_false]), below_dr hb1 (by first | with_reducible assumption | with_reducible exact hd | with_reducible exact Dr.drewN hd _ | with_reducible exact Dr.drewN (Dr.drewN hd _) _ | with_reducible exact Dr.drew hd)⟩
      · have HE := Lib.hid (show turnsTo xs xs.length = true by
          rcases HK.out with h | h
          · rw [show xs.length = k by omega]; exact HA.out
          · subst h
            rcases Nat.eq_zero_or_pos xs.length with h | h
            · rw [h]; rfl
            · rw [show xs.length = 1 by omega]; rfl)
        go_wp2
        go_ret
        exact ⟨ret_bool (by rw [altG2, HP.out, HE.out]; rfl), below_dr hb1 hd⟩
  · have hpf : permB xs = false := by simpa using hp
    have HG := Lib.hid (show altG2 xs = false by rw [altG2, hpf, Bool.false_and])
    go_enter Try.func60, Try.ntmps60
    go_wp2_with fail
    refine (isPerm_impl _ _ _ _ h).mono ?_
    rintro e w1 ⟨rfl, hb1⟩
    rw [hpf]
    clear hp hpf
    go_wp2_with fail
    go_ret
    exact ⟨ret_bool HG.out.symm, hb1⟩

set_option maxHeartbeats 1000000 in
theorem alternates_spec (A : Option Addr) (c : Nat) (xs : List Int) (w : World) (h : In w A c xs) :
    Calls Try.prog 61 #[.slice A xs.length c] w (Rb w (.bool (altG2 xs))) := by
  have hx := h.rd
  have hlen := h.len
  have h0 : True := trivial
  · go_enter Try.func61, Try.ntmps61
    go_wp2_with fail
    go_loopw [3] (fun i wr => ∃ k : Nat, 1 ≤ k ∧ (k ≤ xs.length ∨ k = 1) ∧ i = .int .i64 k ∧ turnsTo xs k = true ∧ Dr w wr) (fun i _ => xs.length - (intOf i).toNat)
    case atStart => exact ⟨1, Nat.le_refl _, .inr rfl, rfl, rfl, Dr.refl _⟩
    case round =>
      obtain ⟨k, h0, hk, rfl, hall, hd⟩ := hrel
      have HA := Lib.hid hall
      have HK := Lib.hid hk
      clear hall hk
      by_cases hlt : k < xs.length
      · obtain ⟨b, off, rfl, _, hc⟩ := hx (by omega)
        have c1 : wr.cell? ⟨b, off + k, none⟩ = some (.int .i64 xs[k]) := (hd.cell _).trans (hc k hlt)
        have c2 : wr.cell? ⟨b, off + (k - 1), none⟩ = some (.int .i64 (xs[k - 1]'(by omega))) := (hd.cell _).trans (hc (k - 1) (by omega))
        have e1 : IntKind.i64.wrap ((k : Int) - 1) = (k : Int) - 1 := IntWalk.i64_in _ (by omega)
        have e2 : ((k : Int) - 1).toNat = k - 1 := by omega
        have e3 : 0 ≤ (k : Int) - 1 := by omega
        have e4 : (k : Int) - 1 < (xs.length : Int) := by omega
        have e5 : 1 ≤ (k : Int) := by omega
        have e6 : (k : Int) ≤ (xs.length : Int) := by omega
        have e7 : (k : Int).tmod 2 = (k : Int) % 2 := IntWalk.rem_in _ _ (by omega)
        have e8 : IntKind.i64.wrap ((k : Int) % 2) = (k : Int) % 2 := IntWalk.i64_in _ (by omega)
        have HTA := Lib.hid (show turnAt xs k = (decide (xs[k] < xs[k - 1]'(by omega)) == decide (k % 2 = 1)) by unfold turnAt; rw [List.getElem?_eq_getElem hlt, List.getElem?_eq_getElem (show k - 1 < xs.length by omega)]; rfl)
        have HM : decide (k % 2 = 1) = ((k : Int) % 2 == 1) := by rw [Bool.eq_iff_iff]; simp; omega
        have HM2 := Lib.hid HM
        clear hc HM
        by_cases ht2 : (decide (xs[k] < xs[k - 1]'(by omega)) == ((k : Int) % 2 == 1)) = true
        · have HT := Lib.hid (show turnsTo xs (k + 1) = true by rw [turnsTo_succ xs k h0, HA.out, HTA.out, HM2.out, ht2]; rfl)
          go_wp2
          go_quiet (fail)
          go_wp2
          go_roundw
          case rel => exact ⟨k + 1, by omega, .inl (by omega), by go_num, HT.out, (by first | with_reducible assumption | with_reducible exact hd | with_reducible exact Dr.drewN hd _ | with_reducible exact Dr.drewN (Dr.drewN hd _) _ | with_reducible exact Dr.drew hd)⟩
          case measure => simp [intOf]; omega
        · have ht : (decide (xs[k] < xs[k - 1]'(by omega)) == ((k : Int) % 2 == 1)) = false := by simpa using ht2
          have HT := Lib.hid (show turnAt xs k = false by rw [HTA.out, HM2.out, ht])
          clear ht2
          go_wp2
          go_quiet (fail)
          go_wp2
          go_ret
          exact ⟨ret_bool (by rw [altG2, turnsTo_false hlt h0 HT.out, Bool.and_false]), below_dr (Below.refl _ _) (by first | with_reducible assumption | with_reducible exact hd | with_reducible exact Dr.drewN hd _ | with_reducible exact Dr.drewN (Dr.drewN hd _) _ | with_reducible exact Dr.drew hd)⟩
      · have HE := Lib.hid (show turnsTo xs xs.length = true by
          rcases HK.out with h | h
          · rw [show xs.length = k by omega]; exact HA.out
          · subst h
            rcases Nat.eq_zero_or_pos xs.length with h | h
            · rw [h]; rfl
            · rw [show xs.length = 1 by omega]; rfl)
        go_wp2_with fail
        refine (isPerm_spec _ _ _ _ (h.dr hd)).mono ?_
        rintro e w2 ⟨rfl, hd2⟩
        go_wp2_with fail
        go_ret
        exact ⟨ret_bool (by rw [altG2, HE.out, Bool.and_true]), below_dr (Below.refl _ _) (hd.trans hd2)⟩

def invN : List Int → Nat
  | [] => 0
  | x :: l => (l.filter fun y => decide (x > y)).length + invN l
theorem invN_snoc (l : List Int) (a : Int) : invN (l ++ [a]) = invN l + (l.filter fun y => decide (y > a)).length := by
  induction l with
  | nil => rfl
  | cons x l ih =>
    simp only [List.cons_append, invN, ih, List.filter_append, List.length_append, List.filter_cons]
    by_cases h : x > a <;> simp [h] <;> omega
theorem filter_le (l : List Int) (p : Int → Bool) : (l.filter p).length ≤ l.length := List.length_filter_le _ _
theorem invN_le (l : List Int) : invN l ≤ l.length * l.length := by
  induction l with
  | nil => exact Nat.le_refl _
  | cons x l ih =>
    have := filter_le l fun y => decide (x > y)
    simp only [invN, List.length_cons, Nat.mul_add, Nat.add_mul]
    omega
def invG (xs : List Int) : Int := if permB xs = true then (invN xs : Int) else -1
theorem filter_snoc (l : List Int) (p : Int → Bool) (k : Nat) (h : k < l.length) : ((l.take (k + 1)).filter p).length = ((l.take k).filter p).length + (if p l[k] = true then 1 else 0) := by
  rw [List.take_succ_eq_append_getElem h, List.filter_append, List.length_append]
  congr 1
  by_cases hp : p l[k] = true <;> simp [hp]

set_option maxHeartbeats 1000000 in
theorem inversions_impl (A : Option Addr) (c : Nat) (xs : List Int) (w : World) (h : In w A c xs) (h8 : xs.length ≤ 8) :
    Calls Try.prog 94 #[.slice A xs.length c] w (Rb w (.int .i64 (invN xs : Int))) := by
  obtain ⟨_, hcap, hx⟩ := h
  go_enter Try.func94, Try.ntmps94
  go_wp2
  go_loop [3, 10] (fun s i => ∃ (k n : Nat), k ≤ xs.length ∧ n + invN (xs.drop k) = invN xs ∧ n ≤ 8 * k ∧ i = .int .i64 k ∧ s = .int .i64 (n : Int)) (fun _ i => xs.length - (intOf i).toNat)
  case atStart => exact ⟨0, 0, Nat.zero_le _, by simp, by omega, rfl, rfl⟩
  case round =>
    obtain ⟨k, n, hk, hn, hn8, rfl, rfl⟩ := hrel
    have HN := Lib.hid hn
    clear hn
    rcases Nat.lt_or_ge k xs.length with hlt | hge
    · have hrd := Rd.cut hx (k := k + 1) (c := c) (by omega) hcap
      obtain ⟨b, off, rfl, _, hc⟩ := hx (by omega)
      have ck := hc k hlt
      have HRD := Lib.hid hrd
      have hsl := fun w => run_cut (P := Try.prog) (t := 24) Try.underlying24 sizeI (some ⟨b, off, none⟩) xs.length c (k + 1) ((k : Int) + 1) (by omega) (by omega) w
      have e1 : IntKind.i64.wrap ((k : Int) + 1) = (k : Int) + 1 := IntWalk.i64_in _ (by omega)
      have HD := Lib.hid (List.drop_eq_getElem_cons hlt)
      clear hc hrd
      go_wp2
      clear hsl
      generalize cutA (some ⟨b, off, none⟩) c (k + 1) = A2 at *
      go_loop [3, 20] (fun s i => ∃ (j F : Nat), j ≤ xs.length - (k + 1) ∧ F ≤ j ∧ (((xs.drop (k + 1)).take j).filter fun y => decide (xs[k] > y)).length = F ∧ i = .int .i64 j ∧ s = .int .i64 ((n + F : Nat) : Int)) (fun _ i => xs.length - (k + 1) - (intOf i).toNat)
      case atStart => exact ⟨0, 0, Nat.zero_le _, Nat.le_refl _, rfl, rfl, by simp⟩
      case round =>
        obtain ⟨j, F, hj, hFj, hF, rfl, rfl⟩ := hrel
        have HF := Lib.hid hF
        clear hF
        rcases Nat.lt_or_ge j (xs.length - (k + 1)) with hlt2 | hge2
        · obtain ⟨b', off', rfl, _, hcd⟩ := HRD.out (by simp; omega)
          have hcj := hcd j (by simp; omega)
          have HJ := Lib.hid (filter_snoc (xs.drop (k + 1)) (fun y => decide (xs[k] > y)) j (by simp; omega))
          obtain ⟨y, hy⟩ : ∃ y, y = (xs.drop (k + 1))[j]'(by simp; omega) := ⟨_, rfl⟩
          rw [← hy] at hcj
          have HY := Lib.hid hy
          have e2 : IntKind.i64.wrap ((n + F : Nat) + 1 : Int) = ((n + F : Nat) : Int) + 1 := IntWalk.i64_in _ (by omega)
          clear hcd hy
          by_cases hgt : y < xs[k]
          · have HS := Lib.hid (show (((xs.drop (k + 1)).take (j + 1)).filter fun y => decide (xs[k] > y)).length = F + 1 by rw [HJ.out, HF.out, ← HY.out, if_pos (by simpa using hgt)])
            go_wp2
            go_round
            case rel => exact ⟨j + 1, F + 1, by omega, by omega, HS.out, by go_num, by go_num⟩
            case measure => simp [intOf]; omega
          · have HS := Lib.hid (show (((xs.drop (k + 1)).take (j + 1)).filter fun y => decide (xs[k] > y)).length = F by rw [HJ.out, HF.out, ← HY.out, if_neg (by simpa using hgt)]; rfl)
            go_wp2
            go_round
            case rel => exact ⟨j + 1, F, by omega, by omega, HS.out, by go_num, by go_num⟩
            case measure => simp [intOf]; omega
        · obtain rfl : j = xs.length - (k + 1) := by omega
          have HS := Lib.hid (show n + F + invN (xs.drop (k + 1)) = invN xs by
            have h1 := HF.out
            rw [List.take_of_length_le (by simp)] at h1
            have h2 := HN.out
            rw [HD.out] at h2
            simp only [invN] at h2
            omega)
          go_wp2
          go_round
          case rel => exact ⟨k + 1, n + F, by omega, HS.out, by omega, by go_num, rfl⟩
          case measure => simp [intOf]; omega
    · obtain rfl : k = xs.length := by omega
      have HS := Lib.hid (show n = invN xs by have := HN.out; rw [List.drop_length] at this; simpa [invN] using this)
      go_wp2
      go_ret
      exact ⟨ret_int (by rw [HS.out]), Below.refl _ _⟩

theorem inv_impl (A : Option Addr) (c : Nat) (xs : List Int) (w : World) (h : In w A c xs) :
    Calls Try.prog 28 #[.slice A xs.length c] w (Rb w (.int .i64 (invG xs))) := by
  by_cases hp : permB xs = true
  · have HG := Lib.hid (show invG xs = (invN xs : Int) by rw [invG, if_pos hp])
    have h8 := (permB_true hp).1
    go_enter Try.func28, Try.ntmps28
    go_wp2_with fail
    refine (isPerm_impl _ _ _ _ h).mono ?_
    rintro e w1 ⟨rfl, hb1⟩
    rw [hp]
    clear hp
    go_wp2_with fail
    refine (inversions_impl _ _ _ _ (h.next hb1) h8).mono ?_
    rintro e w2 ⟨rfl, hb2⟩
    go_wp2_with fail
    go_ret
    exact ⟨ret_int HG.out.symm, hb1.trans (hb2.mono hb1.size)⟩
  · have hpf : permB xs = false := by simpa using hp
    have HG := Lib.hid (show invG xs = -1 by rw [invG, if_neg hp])
    go_enter Try.func28, Try.ntmps28
    go_wp2_with fail
    refine (isPerm_impl _ _ _ _ h).mono ?_
    rintro e w1 ⟨rfl, hb1⟩
    rw [hpf]
    clear hp hpf
    go_wp2_with fail
    go_ret
    exact ⟨ret_int HG.out.symm, hb1⟩

theorem quiet_bit {w : World} {n : Nat} (b : Bool) : Calls Try.prog 91 #[.bool b] (w.drewN n) fun e w'' => e = .returned (.int .i64 (if b = true then 1 else 0)) ∧ ∃ m, w'' = w.drewN m := quiet_eq (l1Bit_any b _)
set_option maxHeartbeats 1000000 in
theorem inv_spec (A : Option Addr) (c : Nat) (xs : List Int) (w : World) (h : In w A c xs) :
    Calls Try.prog 29 #[.slice A xs.length c] w (Rb w (.int .i64 (invG xs))) := by
  by_cases hp : permB xs = true
  · have HG := Lib.hid (show invG xs = (invN xs : Int) by rw [invG, if_pos hp])
    have h8 := (permB_true hp).1
    go_enter Try.func29, Try.ntmps29
    go_wp2_with fail
    refine (isPerm_spec _ _ _ _ h).mono ?_
    rintro e w1 ⟨rfl, hd1⟩
    rw [hp]
    clear hp
    have hx := (h.dr hd1).rd
    go_wp2_with fail
    go_loopw [3, 4] (fun s i wr => ∃ (k N : Nat), k ≤ xs.length ∧ invN (xs.take k) = N ∧ N ≤ 8 * k ∧ i = .int .i64 k ∧ s = .int .i64 (N : Int) ∧ Dr w1 wr) (fun _ i _ => xs.length - (intOf i).toNat)
    case atStart => exact ⟨0, 0, Nat.zero_le _, rfl, Nat.le_refl _, rfl, rfl, Dr.refl _⟩
    case round =>
      obtain ⟨k, N, hk, hN, hN8, rfl, rfl, hd⟩ := hrel
      have HN := Lib.hid hN
      clear hN
      obtain ⟨wo, rfl⟩ : ∃ wo : World, wo = wr := ⟨_, rfl⟩
      rcases Nat.lt_or_ge k xs.length with hlt | hge
      · obtain ⟨b, off, rfl, _, hc⟩ := hx (by omega)
        have HC := Lib.hid hc
        have HIS := Lib.hid (show invN (xs.take (k + 1)) = invN (xs.take k) + ((xs.take k).filter fun y => decide (y > xs[k])).length by rw [List.take_succ_eq_append_getElem hlt, invN_snoc])
        clear hc
        go_wp2
        go_loopw [3, 5] (fun s i wr => ∃ (j F : Nat), j ≤ k ∧ F ≤ j ∧ (((xs.take k).take j).filter fun y => decide (y > xs[k])).length = F ∧ i = .int .i64 j ∧ s = .int .i64 ((N + F : Nat) : Int) ∧ Dr w1 wr) (fun _ i _ => k - (intOf i).toNat)
        case atStart => exact ⟨0, 0, Nat.zero_le _, Nat.le_refl _, rfl, rfl, by simp, hd⟩
        case round =>
          clear hd
          obtain ⟨j, F, hj, hFj, hF, rfl, rfl, hd⟩ := hrel
          have HF := Lib.hid hF
          clear hF
          rcases Nat.lt_or_ge j k with hlt2 | hge2
          · have c1 : wr.cell? ⟨b, off + k, none⟩ = some (.int .i64 xs[k]) := (hd.cell _).trans (HC.out k hlt)
            have c2 : wr.cell? ⟨b, off + j, none⟩ = some (.int .i64 (xs[j]'(by omega))) := (hd.cell _).trans (HC.out j (by omega))
            have HJ := Lib.hid (filter_snoc (xs.take k) (fun y => decide (y > xs[k])) j (by simp; omega))
            have HY := Lib.hid (show (xs.take k)[j]'(by simp; omega) = xs[j]'(by omega) by simp)
            have e1 : IntKind.i64.wrap ((N : Int) + (F : Int) + 1) = (N : Int) + (F : Int) + 1 := IntWalk.i64_in _ (by omega)
            have e2 : IntKind.i64.wrap ((N : Int) + (F : Int)) = (N : Int) + (F : Int) := IntWalk.i64_in _ (by omega)
            by_cases hgt : xs[k] < xs[j]'(by omega)
            · have HS := Lib.hid (show (((xs.take k).take (j + 1)).filter fun y => decide (y > xs[k])).length = F + 1 by rw [HJ.out, HF.out, HY.out, if_pos (by simpa using hgt)])
              go_wp2
              go_quiet ((go_at_call 91; exact quiet_bit _))
              go_wp2
              go_roundw
              case rel => exact ⟨j + 1, F + 1, by omega, by omega, HS.out, by go_num, by go_num, (by first | with_reducible assumption | with_reducible exact hd | with_reducible exact Dr.drewN hd _ | with_reducible exact Dr.drewN (Dr.drewN hd _) _ | with_reducible exact Dr.drew hd)⟩
              case measure => simp [intOf]; omega
            · have HS := Lib.hid (show (((xs.take k).take (j + 1)).filter fun y => decide (y > xs[k])).length = F by rw [HJ.out, HF.out, HY.out, if_neg (by simpa using hgt)]; rfl)
              go_wp2
              go_quiet ((go_at_call 91; exact quiet_bit _))
              go_wp2
              go_roundw
              case rel => exact ⟨j + 1, F, by omega, by omega, HS.out, by go_num, by go_num, (by first | with_reducible assumption | with_reducible exact hd | with_reducible exact Dr.drewN hd _ | with_reducible exact Dr.drewN (Dr.drewN hd _) _ | with_reducible exact Dr.drew hd)⟩
              case measure => simp [intOf]; omega
          · obtain rfl : j = k := by omega
            have HS := Lib.hid (show invN (xs.take (j + 1)) = N + F by
              have h1 := HF.out
              rw [List.take_of_length_le (show (xs.take j).length ≤ j by simp; omega)] at h1
              rw [HIS.out, HN.out, h1])
            go_wp2
            go_roundw
            case rel => exact ⟨j + 1, N + F, by omega, HS.out, by omega, by go_num, rfl, hd⟩
            case measure => simp [intOf]; omega
      · obtain rfl : k = xs.length := by omega
        have HS := Lib.hid (show invN xs = N by have := HN.out; rwa [List.take_length] at this)
        go_wp2
        go_ret
        exact ⟨ret_int (by rw [HG.out, HS.out]), below_dr (Below.refl _ _) (hd1.trans hd)⟩
  · have hpf : permB xs = false := by simpa using hp
    have HG := Lib.hid (show invG xs = -1 by rw [invG, if_neg hp])
    go_enter Try.func29, Try.ntmps29
    go_wp2_with fail
    refine (isPerm_spec _ _ _ _ h).mono ?_
    rintro e w1 ⟨rfl, hd⟩
    rw [hpf]
    clear hp hpf
    go_wp2_with fail
    go_ret
    exact ⟨ret_int HG.out.symm, below_dr (Below.refl _ _) hd⟩

end Go.Proofs.Ythipikllgpnlhaa

/- The counts of FnStatistics: what the loops add up to, by the kernel's own reckoning. -/
namespace Go.Proofs.Ythipikllgpnlhaa
set_option maxRecDepth 100000
open Go Go.RowKit

/-- The counts after k permutations. -/
def histTo (f : List Int → Nat) (m : Nat) (L : List (List Int)) : Nat → List Int
  | 0 => List.replicate m 0
  | k + 1 => addAt (histTo f m L k) (f (L[k]?.getD [])) 1
theorem histTo_length (f : List Int → Nat) (m : Nat) (L : List (List Int)) (k : Nat) : (histTo f m L k).length = m := by
  induction k with
  | zero => simp [histTo]
  | succ k ih => rw [histTo, addAt_length, ih]
def fDown (p : List Int) : Nat := (listG p (descH p)).length
def fRise (p : List Int) : Nat := (countG p (riseH p) : Int).toNat
def fInv (p : List Int) : Nat := (invG p).toNat
def fMajor (p : List Int) : Nat := (majorG p).toNat
/-- What the first loop needs, and what it comes to. -/
def statN (n : Nat) : Bool :=
  (permsL n).all (fun p => decide (p.length ≤ 5) && decide (fDown p < n) && decide (fRise p < n) && decide ((countG p (riseH p) : Int) = fRise p)) &&
  decide (histTo fDown n (permsL n) (permsL n).length = eulG n) && decide (histTo fRise n (permsL n) (permsL n).length = eulG n)
def statK (k : Nat) : Bool :=
  (permsL k).all (fun p => decide (p.length ≤ 5) && decide (fInv p < k * (k - 1) / 2 + 1) && decide (fMajor p < k * (k - 1) / 2 + 1) && decide (invG p = fInv p) && decide (majorG p = fMajor p)) &&
  decide (histTo fInv (k * (k - 1) / 2 + 1) (permsL k) (permsL k).length = mahG k) && decide (histTo fMajor (k * (k - 1) / 2 + 1) (permsL k) (permsL k).length = mahG k)
set_option maxRecDepth 100000 in
theorem statN_all : (List.range 5).all (fun i => statN (i + 1)) = true := by decide +kernel
set_option maxRecDepth 100000 in
theorem statK_all : (List.range 5).all (fun i => statK (i + 1)) = true := by decide +kernel
theorem statN_at {m : Nat} (h : 1 ≤ m ∧ m ≤ 5) : statN m = true := by
  have := List.all_eq_true.1 statN_all (m - 1) (List.mem_range.2 (by omega))
  rwa [show m - 1 + 1 = m by omega] at this
theorem statK_at {m : Nat} (h : 1 ≤ m ∧ m ≤ 5) : statK m = true := by
  have := List.all_eq_true.1 statK_all (m - 1) (List.mem_range.2 (by omega))
  rwa [show m - 1 + 1 = m by omega] at this
theorem oD0_lt {w : World} {base b n c : Nat} {vs : List Value} (h : w.ownsRow base 3 1 (.slice (some ⟨b, 0, none⟩) n c) n vs) (hn : 0 < n) : b < w.heap.size := by
  obtain ⟨g, cap, hv, _, hlt⟩ := h.form hn
  injection hv with h1
  injection h1 with h1
  injection h1 with h1
  omega
theorem statN_row {m : Nat} {x : List Int} (h : statN m = true) (hx : x ∈ permsL m) : x.length ≤ 5 ∧ fDown x < m ∧ fRise x < m ∧ (countG x (riseH x) : Int) = fRise x := by
  unfold statN at h
  simp only [Bool.and_eq_true] at h
  have h1 := List.all_eq_true.1 h.1.1 x hx
  simpa [and_assoc] using h1
theorem statK_row {m : Nat} {x : List Int} (h : statK m = true) (hx : x ∈ permsL m) : x.length ≤ 5 ∧ fInv x < m * (m - 1) / 2 + 1 ∧ fMajor x < m * (m - 1) / 2 + 1 ∧ invG x = fInv x ∧ majorG x = fMajor x := by
  unfold statK at h
  simp only [Bool.and_eq_true] at h
  have h1 := List.all_eq_true.1 h.1.1 x hx
  simpa [and_assoc] using h1
theorem permsL_120 {m : Nat} (h : m ≤ 5) : (permsL m).length ≤ 120 := by
  have h1 : (List.range 6).all (fun i => decide ((permsL i).length ≤ 120)) = true := by decide +kernel
  exact of_decide_eq_true (List.all_eq_true.1 h1 m (List.mem_range.2 (by omega)))
/-- A count is raised: what else is held stays. -/
theorem bump_facts {x0 wr w9 : World} {B g g' lo hi m q base base' pc : Nat} {PA : Option Addr} {d d' : List Int} {rs : List Row} (hb : Below wr.heap.size wr w9)
    (oD : wr.ownsRow base 3 1 (.slice (some ⟨g, 0, none⟩) m m) m (d.map (Value.int .i64))) (oR : wr.ownsRow base' 3 1 (.slice (some ⟨g', 0, none⟩) m m) m (d'.map (Value.int .i64)))
    (hO : Own wr lo hi rs [⟨PA, pc, rs.map Row.v⟩]) (hX : Below B x0 wr) (hg : g ≠ g') (hlo : g < lo) (hB : B ≤ g) (hq : q < d.length) {u : Int} (hu : u = wrap64 (d[q] + 1)) :
    (w9.setCell ⟨g, q, none⟩ (.int .i64 u)).ownsRow base 3 1 (.slice (some ⟨g, 0, none⟩) m m) m ((addAt d q 1).map (Value.int .i64)) ∧
    (w9.setCell ⟨g, q, none⟩ (.int .i64 u)).ownsRow base' 3 1 (.slice (some ⟨g', 0, none⟩) m m) m (d'.map (Value.int .i64)) ∧
    Own (w9.setCell ⟨g, q, none⟩ (.int .i64 u)) lo hi rs [⟨PA, pc, rs.map Row.v⟩] ∧ Below B x0 (w9.setCell ⟨g, q, none⟩ (.int .i64 u)) ∧
    wr.heap.size ≤ (w9.setCell ⟨g, q, none⟩ (.int .i64 u)).heap.size := by
  have hsp : Span g (g + 1) w9 (w9.setCell ⟨g, q, none⟩ (.int .i64 u)) := Span.set (p := ⟨g, q, none⟩) (Nat.le_refl _) (Nat.lt_succ_self _) _
  have hsz := hb.size
  have hs2 := hsp.size
  have hgl := oD0_lt oD (by have := own_len oD; simp only [List.length_map] at this; omega)
  refine ⟨?_, own_span (own_below oR hb) hsp (fun k hk => ?_), (hO.below hb).span hsp (.inr (by omega)), (hX.trans (hb.mono (by omega))).setCell (p := ⟨g, q, none⟩) hB _, by omega⟩
  · have h1 := (own_put (own_below oD hb) q hq u).2.2
    rw [addAt, List.getElem?_eq_getElem hq, Option.getD_some, ← hu]
    exact h1
  · have : g' = k := by injection hk
    omega
end Go.Proofs.Ythipikllgpnlhaa
