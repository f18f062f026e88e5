/- Patterns with joined places: the laws' own helpers for them, and IsNear. -/
import Derived.Test.YthipikllgpnlhaaProg
import Derived.Test.YthipikllgpnlhaaBase
import Derived.Test.YthipikllgpnlhaaHlp
import Derived.Test.YthipikllgpnlhaaHlp2
import Derived.Test.YthipikllgpnlhaaP3
import Derived.Test.YthipikllgpnlhaaR1
namespace Go.Proofs.Ythipikllgpnlhaa
set_option maxRecDepth 100000
open Go Go.RowKit

/-- The joined place at j is right, in a pattern of length n. -/
def joinAt (n : Nat) (ys : List Int) (j : Nat) : Bool := decide (1 ≤ ys[j]?.getD 0 ∧ ys[j]?.getD 0 < n ∧ (j = 0 ∨ ys[j - 1]?.getD 0 < ys[j]?.getD 0))
def joinTo (n : Nat) (ys : List Int) (k : Nat) : Bool := (List.range k).all (joinAt n ys)
theorem joinTo_succ (n : Nat) (ys : List Int) (k : Nat) : joinTo n ys (k + 1) = (joinTo n ys k && joinAt n ys k) := by simp [joinTo, List.range_succ]
theorem joinTo_false {n : Nat} {ys : List Int} {k m : Nat} (h : k < m) (ht : joinAt n ys k = false) : joinTo n ys m = false := by
  unfold joinTo
  rw [List.all_eq_false]
  exact ⟨k, List.mem_range.2 h, by simp [ht]⟩
def nearB (xs ys : List Int) : Bool := permB xs && joinTo xs.length ys ys.length

theorem l1In_b (x lo hi : Int) (w : World) (b : Bool) (hb : decide (lo ≤ x ∧ x ≤ hi) = b) :
    Calls Try.prog 87 #[.int .i64 x, .int .i64 lo, .int .i64 hi] w fun e w' => e = .returned (.bool b) ∧ w = w' := by
  subst hb
  exact l1In_any x lo hi w

set_option maxHeartbeats 1000000 in
theorem near_impl (A B : Option Addr) (c k : Nat) (xs ys : List Int) (w : World) (h : InN w A c xs B k ys) :
    Calls Try.prog 77 #[.agg #[.slice A xs.length c, .slice B ys.length k]] w (Rb w (.bool (nearB xs ys))) := by
  have hlx := h.1.len
  have hly := h.2.len
  by_cases hp : permB xs = true
  · have HP := Lib.hid hp
    go_enter Try.func77, Try.ntmps77
    have hb0 : Below w.heap.size w (w.alloc (Obj.cells #[Value.slice A xs.length c, Value.slice B ys.length k] 32)) := (Below.refl _ _).alloc (Nat.le_refl _) _
    go_wp2_with fail
    (with_reducible refine (isPerm_impl A c xs _ (h.1.next hb0)).mono ?_)
    rintro e w1 ⟨rfl, hb1⟩
    rw [hp]
    clear hp
    have hb := hb0.trans (hb1.mono hb0.size)
    have f0 : w1.cell? ⟨w.heap.size, 0, none⟩ = some (Value.slice A xs.length c) := (hb1.cell (by simp)).trans (by simp)
    have f1 : w1.cell? ⟨w.heap.size, 1, none⟩ = some (Value.slice B ys.length k) := (hb1.cell (by simp)).trans (by simp)
    have hy := (h.2.next hb).rd
    clear hb0 hb1
    go_wp2_with fail
    go_loopw [12] (fun i wr => ∃ j : Nat, j ≤ ys.length ∧ i = .int .i64 j ∧ joinTo xs.length ys j = true ∧ Dr w1 wr) (fun i _ => ys.length - (intOf i).toNat)
    case atStart => exact ⟨0, Nat.zero_le _, rfl, rfl, Dr.refl _⟩
    case round =>
      obtain ⟨j, hj, rfl, hall, hd⟩ := hrel
      have HA := Lib.hid hall
      clear hall
      have g0 : wr.cell? ⟨w.heap.size, 0, none⟩ = some (Value.slice A xs.length c) := (hd.cell _).trans f0
      have g1 : wr.cell? ⟨w.heap.size, 1, none⟩ = some (Value.slice B ys.length k) := (hd.cell _).trans f1
      by_cases hlt : j < ys.length
      · obtain ⟨b, off, rfl, _, hc⟩ := hy (by omega)
        have c1 : wr.cell? ⟨b, off + j, none⟩ = some (.int .i64 ys[j]) := (hd.cell _).trans (hc j hlt)
        have HTA := Lib.hid (show joinAt xs.length ys j = decide (1 ≤ ys[j] ∧ ys[j] < (xs.length : Int) ∧ (j = 0 ∨ ys[j - 1]?.getD 0 < ys[j])) by unfold joinAt; rw [List.getElem?_eq_getElem hlt]; rfl)
        by_cases h1 : ys[j] < 1
        · have d1 : decide (ys[j] < 1) = true := decide_eq_true h1
          have HT := Lib.hid (show joinAt xs.length ys j = false by rw [HTA.out, decide_eq_false_iff_not]; omega)
          clear hc h1
          go_wp2
          go_ret
          exact ⟨ret_bool (by rw [nearB, joinTo_false hlt HT.out, Bool.and_false]), below_dr hb (by first | with_reducible assumption | with_reducible exact hd | with_reducible exact Dr.drewN hd _ | with_reducible exact Dr.drewN (Dr.drewN hd _) _ | with_reducible exact Dr.drew hd)⟩
        · have d1 : decide (ys[j] < 1) = false := decide_eq_false h1
          by_cases h2 : (xs.length : Int) ≤ ys[j]
          · have d2 : decide ((xs.length : Int) ≤ ys[j]) = true := decide_eq_true h2
            have d2' : decide (ys[j] ≥ (xs.length : Int)) = true := decide_eq_true h2
            have HT := Lib.hid (show joinAt xs.length ys j = false by rw [HTA.out, decide_eq_false_iff_not]; omega)
            clear hc h1 h2
            go_wp2
            go_ret
            exact ⟨ret_bool (by rw [nearB, joinTo_false hlt HT.out, Bool.and_false]), below_dr hb (by first | with_reducible assumption | with_reducible exact hd | with_reducible exact Dr.drewN hd _ | with_reducible exact Dr.drewN (Dr.drewN hd _) _ | with_reducible exact Dr.drew hd)⟩
          · have d2 : decide ((xs.length : Int) ≤ ys[j]) = false := decide_eq_false h2
            have d2' : decide (ys[j] ≥ (xs.length : Int)) = false := decide_eq_false h2
            rcases Nat.eq_zero_or_pos j with h0 | h0
            · subst h0
              have HT := Lib.hid (show joinTo xs.length ys (0 + 1) = true by rw [joinTo_succ, HA.out, HTA.out, Bool.true_and, decide_eq_true_eq]; omega)
              have c1' : wr.cell? ⟨b, off, none⟩ = some (.int .i64 ys[0]) := c1
              clear hc h1 h2
              go_wp2
              go_roundw
              case rel => exact ⟨1, by omega, rfl, HT.out, (by first | with_reducible assumption | with_reducible exact hd | with_reducible exact Dr.drewN hd _ | with_reducible exact Dr.drewN (Dr.drewN hd _) _ | with_reducible exact Dr.drew hd)⟩
              case measure => simp [intOf]; omega
            · have c2 : wr.cell? ⟨b, off + (j - 1), none⟩ = some (.int .i64 (ys[j - 1]'(by omega))) := (hd.cell _).trans (hc (j - 1) (by omega))
              have e1 : IntKind.i64.wrap ((j : Int) - 1) = (j : Int) - 1 := IntWalk.i64_in _ (by omega)
              have e2 : ((j : Int) - 1).toNat = j - 1 := by omega
              have e3 : 0 ≤ (j : Int) - 1 := by omega
              have e4 : (j : Int) - 1 < (ys.length : Int) := by omega
              have e5 : 1 ≤ (j : Int) := by omega
              have e6 : (j : Int) ≤ (ys.length : Int) := by omega
              have d0 : decide ((j : Int) > 0) = true := decide_eq_true (by omega)
              have d0' : decide (0 < (j : Int)) = true := decide_eq_true (by omega)
              have HJ := Lib.hid (show ys[j - 1]?.getD 0 = ys[j - 1]'(by omega) by rw [List.getElem?_eq_getElem (by omega)]; rfl)
              by_cases h3 : ys[j] ≤ (ys[j - 1]'(by omega))
              · have d3 : decide (ys[j] ≤ (ys[j - 1]'(by omega))) = true := decide_eq_true h3
                have d3' : decide ((ys[j - 1]'(by omega)) ≥ ys[j]) = true := decide_eq_true h3
                have HT := Lib.hid (show joinAt xs.length ys j = false by rw [HTA.out, HJ.out, decide_eq_false_iff_not]; omega)
                clear hc h1 h2 h3
                go_wp2
                go_ret
                exact ⟨ret_bool (by rw [nearB, joinTo_false hlt HT.out, Bool.and_false]), below_dr hb (by first | with_reducible assumption | with_reducible exact hd | with_reducible exact Dr.drewN hd _ | with_reducible exact Dr.drewN (Dr.drewN hd _) _ | with_reducible exact Dr.drew hd)⟩
              · have d3 : decide (ys[j] ≤ (ys[j - 1]'(by omega))) = false := decide_eq_false h3
                have d3' : decide ((ys[j - 1]'(by omega)) ≥ ys[j]) = false := decide_eq_false h3
                have HT := Lib.hid (show joinTo xs.length ys (j + 1) = true by rw [joinTo_succ, HA.out, HTA.out, HJ.out, Bool.true_and, decide_eq_true_eq]; omega)
                clear hc h1 h2 h3
                go_wp2
                go_roundw
                case rel => exact ⟨j + 1, by omega, by go_num, HT.out, (by first | with_reducible assumption | with_reducible exact hd | with_reducible exact Dr.drewN hd _ | with_reducible exact Dr.drewN (Dr.drewN hd _) _ | with_reducible exact Dr.drew hd)⟩
                case measure => simp [intOf]; omega
      · have HE := Lib.hid (show joinTo xs.length ys ys.length = true by rw [show ys.length = j by omega]; exact HA.out)
        go_wp2
        go_ret
        exact ⟨ret_bool (by rw [nearB, HP.out, HE.out]; rfl), below_dr hb (by first | with_reducible assumption | with_reducible exact hd | with_reducible exact Dr.drewN hd _ | with_reducible exact Dr.drewN (Dr.drewN hd _) _ | with_reducible exact Dr.drew hd)⟩
  · have hpf : permB xs = false := by simpa using hp
    have HG := Lib.hid (show nearB xs ys = false by rw [nearB, hpf, Bool.false_and])
    go_enter Try.func77, Try.ntmps77
    have hb0 : Below w.heap.size w (w.alloc (Obj.cells #[Value.slice A xs.length c, Value.slice B ys.length k] 32)) := (Below.refl _ _).alloc (Nat.le_refl _) _
    go_wp2_with fail
    (with_reducible refine (isPerm_impl A c xs _ (h.1.next hb0)).mono ?_)
    rintro e w1 ⟨rfl, hb1⟩
    rw [hpf]
    go_wp2
    go_ret
    exact ⟨ret_bool HG.out.symm, hb0.trans (hb1.mono hb0.size)⟩
set_option maxHeartbeats 1000000 in
theorem near_spec (A B : Option Addr) (c k : Nat) (xs ys : List Int) (w : World) (h : InN w A c xs B k ys) :
    Calls Try.prog 79 #[.agg #[.slice A xs.length c, .slice B ys.length k]] w (Rb w (.bool (nearB xs ys))) := by
  have hlx := h.1.len
  have hly := h.2.len
  go_enter Try.func79, Try.ntmps79
  have hb : Below w.heap.size w (w.alloc (Obj.cells #[Value.slice A xs.length c, Value.slice B ys.length k] 32)) := (Below.refl _ _).alloc (Nat.le_refl _) _
  have f0 : (w.alloc (Obj.cells #[Value.slice A xs.length c, Value.slice B ys.length k] 32)).cell? ⟨w.heap.size, 0, none⟩ = some (Value.slice A xs.length c) := by simp
  have f1 : (w.alloc (Obj.cells #[Value.slice A xs.length c, Value.slice B ys.length k] 32)).cell? ⟨w.heap.size, 1, none⟩ = some (Value.slice B ys.length k) := by simp
  go_wp2_with fail
  generalize hw1 : (w.alloc (Obj.cells #[Value.slice A xs.length c, Value.slice B ys.length k] 32)) = w1 at hb f0 f1 ⊢
  have hi := h.next hb
  have hy := hi.2.rd
  go_loopw [3] (fun i wr => ∃ j : Nat, j ≤ ys.length ∧ i = .int .i64 j ∧ joinTo xs.length ys j = true ∧ Dr w1 wr) (fun i _ => ys.length - (intOf i).toNat)
  case atStart => exact ⟨0, Nat.zero_le _, rfl, rfl, Dr.refl _⟩
  case round =>
    obtain ⟨j, hj, rfl, hall, hd⟩ := hrel
    have HA := Lib.hid hall
    clear hall
    have g0 : wr.cell? ⟨w.heap.size, 0, none⟩ = some (Value.slice A xs.length c) := (hd.cell _).trans f0
    have g1 : wr.cell? ⟨w.heap.size, 1, none⟩ = some (Value.slice B ys.length k) := (hd.cell _).trans f1
    by_cases hlt : j < ys.length
    · obtain ⟨b, off, rfl, _, hc⟩ := hy (by omega)
      have c1 : wr.cell? ⟨b, off + j, none⟩ = some (.int .i64 ys[j]) := (hd.cell _).trans (hc j hlt)
      have HTA := Lib.hid (show joinAt xs.length ys j = decide (1 ≤ ys[j] ∧ ys[j] < (xs.length : Int) ∧ (j = 0 ∨ ys[j - 1]?.getD 0 < ys[j])) by unfold joinAt; rw [List.getElem?_eq_getElem hlt]; rfl)
      have e0 : IntKind.i64.wrap ((xs.length : Int) - 1) = (xs.length : Int) - 1 := IntWalk.i64_in _ (by omega)
      by_cases h1 : 1 ≤ ys[j] ∧ ys[j] ≤ (xs.length : Int) - 1
      · have d1 : decide (1 ≤ ys[j] ∧ ys[j] ≤ (xs.length : Int) - 1) = true := decide_eq_true h1
        rcases Nat.eq_zero_or_pos j with h0 | h0
        · subst h0
          have HT := Lib.hid (show joinTo xs.length ys (0 + 1) = true by rw [joinTo_succ, HA.out, HTA.out, Bool.true_and, decide_eq_true_eq]; omega)
          have c1' : wr.cell? ⟨b, off, none⟩ = some (.int .i64 ys[0]) := c1
          clear hc h1
          go_wp2
          go_quiet ((go_at_call 87; exact quiet_eq (l1In_b _ _ _ _ true d1)))
          go_wp2
          go_roundw
          case rel => exact ⟨1, by omega, rfl, HT.out, (by first | with_reducible assumption | with_reducible exact hd | with_reducible exact Dr.drewN hd _ | with_reducible exact Dr.drewN (Dr.drewN hd _) _ | with_reducible exact Dr.drew hd)⟩
          case measure => simp [intOf]; omega
        · have c2 : wr.cell? ⟨b, off + (j - 1), none⟩ = some (.int .i64 (ys[j - 1]'(by omega))) := (hd.cell _).trans (hc (j - 1) (by omega))
          have e1 : IntKind.i64.wrap ((j : Int) - 1) = (j : Int) - 1 := IntWalk.i64_in _ (by omega)
          have e2 : ((j : Int) - 1).toNat = j - 1 := by omega
          have e3 : 0 ≤ (j : Int) - 1 := by omega
          have e4 : (j : Int) - 1 < (ys.length : Int) := by omega
          have e5 : 1 ≤ (j : Int) := by omega
          have e6 : (j : Int) ≤ (ys.length : Int) := by omega
          have d0 : decide ((j : Int) > 0) = true := decide_eq_true (by omega)
          have d0' : decide (0 < (j : Int)) = true := decide_eq_true (by omega)
          have HJ := Lib.hid (show ys[j - 1]?.getD 0 = ys[j - 1]'(by omega) by rw [List.getElem?_eq_getElem (by omega)]; rfl)
          by_cases h3 : ys[j] ≤ (ys[j - 1]'(by omega))
          · have d3 : decide (ys[j] ≤ (ys[j - 1]'(by omega))) = true := decide_eq_true h3
            have HT := Lib.hid (show joinAt xs.length ys j = false by rw [HTA.out, HJ.out, decide_eq_false_iff_not]; omega)
            clear hc h1 h3
            go_wp2
            go_quiet ((go_at_call 87; exact quiet_eq (l1In_b _ _ _ _ true d1)))
            go_wp2
            go_ret
            exact ⟨ret_bool (by rw [nearB, joinTo_false hlt HT.out, Bool.and_false]), below_dr hb (by first | with_reducible assumption | with_reducible exact hd | with_reducible exact Dr.drewN hd _ | with_reducible exact Dr.drewN (Dr.drewN hd _) _ | with_reducible exact Dr.drew hd)⟩
          · have d3 : decide (ys[j] ≤ (ys[j - 1]'(by omega))) = false := decide_eq_false h3
            have HT := Lib.hid (show joinTo xs.length ys (j + 1) = true by rw [joinTo_succ, HA.out, HTA.out, HJ.out, Bool.true_and, decide_eq_true_eq]; omega)
            clear hc h1 h3
            go_wp2
            go_quiet ((go_at_call 87; exact quiet_eq (l1In_b _ _ _ _ true d1)))
            go_wp2
            go_roundw
            case rel => exact ⟨j + 1, by omega, by go_num, HT.out, (by first | with_reducible assumption | with_reducible exact hd | with_reducible exact Dr.drewN hd _ | with_reducible exact Dr.drewN (Dr.drewN hd _) _ | with_reducible exact Dr.drew hd)⟩
            case measure => simp [intOf]; omega
      · have d1 : decide (1 ≤ ys[j] ∧ ys[j] ≤ (xs.length : Int) - 1) = false := decide_eq_false h1
        have HT := Lib.hid (show joinAt xs.length ys j = false by rw [HTA.out, decide_eq_false_iff_not]; omega)
        clear hc h1
        go_wp2
        go_quiet ((go_at_call 87; exact quiet_eq (l1In_b _ _ _ _ false d1)))
        go_wp2
        go_ret
        exact ⟨ret_bool (by rw [nearB, joinTo_false hlt HT.out, Bool.and_false]), below_dr hb (by first | with_reducible assumption | with_reducible exact hd | with_reducible exact Dr.drewN hd _ | with_reducible exact Dr.drewN (Dr.drewN hd _) _ | with_reducible exact Dr.drew hd)⟩
    · have HE := Lib.hid (show joinTo xs.length ys ys.length = true by rw [show ys.length = j by omega]; exact HA.out)
      have hbr := below_dr hb hd
      have hir := h.next hbr
      go_wp2_with fail
      (with_reducible refine (isPerm_spec A c xs _ hir.1).mono ?_)
      rintro e w2 ⟨rfl, hb2⟩
      go_wp2
      go_ret
      exact ⟨ret_bool (by rw [nearB, HE.out, Bool.and_true]), below_dr hbr hb2⟩
end Go.Proofs.Ythipikllgpnlhaa
