/- IsFinite, program and reference. -/
import Derived.Test.YtmkaelefljjamaaV1
import Derived.Test.YtmkaelefljjamaaG2
namespace Go.Proofs.Ytmkaelefljjamaa
set_option maxRecDepth 100000
open Go Go.RowKit

def riseB (p : List Int) : Bool := decide (p = nums p.length)
def fallB (p : List Int) : Bool := decide (p = (nums p.length).reverse)
theorem fall_rev (p : List Int) : riseB p.reverse = fallB p := by
  unfold riseB fallB
  rw [decide_eq_decide, List.length_reverse]
  constructor
  · intro h; rw [← h, List.reverse_reverse]
  · intro h; conv => lhs; rw [h]
    rw [List.reverse_reverse]
def finG (X : List (List Int)) : Bool := basisB X && X.any riseB && X.any fallB

theorem call_ri (args : Array Value) (w : World) : (callFunc 74 args).run Try.prog w = .ok (.enter 74 args) w := by kernel_rfl
theorem call_fa (args : Array Value) (w : World) : (callFunc 75 args).run Try.prog w = .ok (.enter 75 args) w := by kernel_rfl
set_option maxHeartbeats 800000 in
theorem rising_any (A : Option Addr) (c : Nat) (p : List Int) (w : World) (h : In w A c p) (hp : permB p = true) :
    Calls Try.prog 74 #[.slice A p.length c] w (Rb w (.bool (riseB p))) := by
  have HS := Lib.hid (sort_perm hp)
  have hl := h.len
  have hx := h.rd
  clear hp
  go_enter Try.func74, Try.ntmps74
  go_wp2_with fail
  (with_reducible refine (isSorted_b A c p.length p w _ rfl hl hx rfl).mono ?_)
  rintro e w1 ⟨rfl, hd⟩
  go_wp2_with fail
  go_ret
  exact ⟨ret_bool (by rw [HS.out]; rfl), below_dr (Below.refl _ _) hd⟩
set_option maxHeartbeats 800000 in
theorem falling_any (A : Option Addr) (c : Nat) (p : List Int) (w : World) (h : In w A c p) :
    Calls Try.prog 75 #[.slice A p.length c] w (Rb w (.bool (fallB p))) := by
  have hl := h.len
  go_enter Try.func75, Try.ntmps75
  go_wp2_with fail
  (with_reducible refine (identity_any p.length w hl).mono ?_)
  rintro e w1 ⟨A1, c1, rfl, q1, q2, own1, hb1⟩
  have HL := Lib.hid (idL_length p.length)
  have hin1 : In w1 A1 c1 (idL p.length) := ⟨by rw [HL.out]; exact hl, q1, Rd.of_own own1⟩
  go_wp2_with fail
  (with_reducible refine (reverse_impl A1 c1 (idL p.length) w1 hin1).mono ?_)
  rintro e w2 ⟨A2, c2, rfl, q3, q4, own2, hb2⟩
  have hb := hb1.trans (hb2.mono hb1.size)
  have hr1 := (h.next hb).rd
  have hr2 := Rd.of_own own2
  have HR := Lib.hid (show decide (p = (idL p.length).reverse) = fallB p from rfl)
  have hl2 : p.length ≤ 4611686018427387904 := by omega
  clear own1 own2 hin1
  go_wp2_with fail
  (with_reducible refine (equal_b A A2 c c2 p.length (idL p.length).length p (idL p.length).reverse w2 _ rfl List.length_reverse hl2 hr1 hr2 HR.out).mono ?_)
  rintro e w3 ⟨rfl, hd3⟩
  go_wp2_with fail
  go_ret
  exact ⟨rfl, below_dr hb hd3⟩
set_option maxHeartbeats 1000000 in
theorem finite_impl (A : Option Addr) (c : Nat) (rs : List Row) (w : World) (h : InL w A c rs) :
    Calls Try.prog 31 #[.slice A rs.length c] w (Rb w (.bool (finG (rs.map Row.xs)))) := by
  have hlen := h.len
  by_cases hB : basisB (rs.map Row.xs) = true
  · have H1 := Lib.hid hB
    have hperm := basis_perm hB
    have HP := Lib.hid (show ∀ r ∈ rs, permB r.xs = true from fun r hr => hperm _ (List.mem_map.2 ⟨r, hr, rfl⟩))
    have HG := Lib.hid (show finG (rs.map Row.xs) = ((rs.any fun r : Row => riseB r.xs) && (rs.any fun r : Row => fallB r.xs)) by
      unfold finG; rw [hB, any_rows rs riseB, any_rows rs fallB]; rfl)
    clear hB hperm
    go_enter Try.func31, Try.ntmps31
    go_wp2_with fail
    (with_reducible refine (basis_ib A c rs w true h H1.out).mono ?_)
    rintro e w1 ⟨rfl, hb1⟩
    have h1 := h.next hb1
    go_wp2_with fail
    by_cases hu : (rs.any fun r : Row => riseB r.xs) = true
    · have HU := Lib.hid hu
      refine (containsFuncL0 A c rs 74 riseB w1 (by omega) h1.read (fun args w' => call_ri args w') (fun w' k hk hb => rising_any _ _ _ _ ((h1.next hb).row (List.getElem_mem hk)) (HP.out _ (List.getElem_mem hk))) true hu).mono ?_
      rintro e w2 ⟨rfl, hb2⟩
      clear hu
      have h2 := h1.next hb2
      have hb12 := hb1.trans (hb2.mono hb1.size)
      go_wp2_with fail
      refine (containsFuncL0 A c rs 75 fallB w2 (by omega) h2.read (fun args w' => call_fa args w') (fun w' k hk hb => falling_any _ _ _ _ ((h2.next hb).row (List.getElem_mem hk))) _ rfl).mono ?_
      rintro e w3 ⟨rfl, hb3⟩
      go_wp2_with fail
      go_ret
      exact ⟨ret_bool (by rw [HG.out, HU.out, Bool.true_and]), hb12.trans (hb3.mono hb12.size)⟩
    · have huf : (rs.any fun r : Row => riseB r.xs) = false := by simpa using hu
      have HU := Lib.hid huf
      refine (containsFuncL0 A c rs 74 riseB w1 (by omega) h1.read (fun args w' => call_ri args w') (fun w' k hk hb => rising_any _ _ _ _ ((h1.next hb).row (List.getElem_mem hk)) (HP.out _ (List.getElem_mem hk))) false huf).mono ?_
      rintro e w2 ⟨rfl, hb2⟩
      clear hu huf
      go_wp2_with fail
      go_ret
      exact ⟨ret_bool (by rw [HG.out, HU.out, Bool.false_and]), hb1.trans (hb2.mono hb1.size)⟩
  · have hBf : basisB (rs.map Row.xs) = false := by simpa using hB
    have H1 := Lib.hid hBf
    have HG := Lib.hid (show finG (rs.map Row.xs) = false by unfold finG; rw [hBf]; rfl)
    clear hB hBf
    go_enter Try.func31, Try.ntmps31
    go_wp2_with fail
    (with_reducible refine (basis_ib A c rs w false h H1.out).mono ?_)
    rintro e w1 ⟨rfl, hb1⟩
    go_wp2_with fail
    go_ret
    exact ⟨ret_bool (by rw [HG.out]), hb1⟩
set_option maxHeartbeats 800000 in
theorem straight_b (A : Option Addr) (c n : Nat) (p : List Int) (w : World) (b : Bool) (hn : p.length = n) (hl : n ≤ 8) (hx : Rd (Value.int .i64) w w.heap.size A p) (hb : riseB p = b) :
    Calls Try.prog 72 #[.slice A n c] w (Rb w (.bool b)) := by
  subst hn
  have HB := Lib.hid hb
  clear hb
  go_enter Try.func72, Try.ntmps72
  go_wp2_with fail
  (with_reducible refine (identityPerm_spec p.length w hl).mono ?_)
  rintro e w1 ⟨A1, c1, rfl, q1, q2, own1, hb1⟩
  have hr1 := hx.next hb1
  have hr2 := Rd.of_own own1
  have hl2 : p.length ≤ 4611686018427387904 := by omega
  have HR := Lib.hid (show decide (p = nums p.length) = b from HB.out)
  clear own1
  go_wp2_with fail
  (with_reducible refine (l2Same_b A A1 c c1 p.length (nums p.length).length p (nums p.length) w1 b rfl rfl hl2 hr1 hr2 HR.out).mono ?_)
  rintro e w2 ⟨rfl, hd2⟩
  go_wp2_with fail
  go_ret
  exact ⟨rfl, below_dr hb1 hd2⟩
set_option maxHeartbeats 2000000 in
theorem finite_spec (A : Option Addr) (c : Nat) (rs : List Row) (w : World) (h : InL w A c rs) :
    Calls Try.prog 30 #[.slice A rs.length c] w (Rb w (.bool (finG (rs.map Row.xs)))) := by
  have hlen := h.len
  by_cases hB : basisB (rs.map Row.xs) = true
  · have H1 := Lib.hid hB
    have hr8 := rows_8 (basis_perm hB)
    have HG := Lib.hid (show finG (rs.map Row.xs) = ((rs.any fun r : Row => riseB r.xs) && (rs.any fun r : Row => fallB r.xs)) by
      unfold finG; rw [hB, any_rows rs riseB, any_rows rs fallB]; rfl)
    clear hB
    go_enter Try.func30, Try.ntmps30
    go_wp2_with fail
    go_loopw [3, 4, 5] (fun u d i wr => ∃ k : Nat, k ≤ rs.length ∧ i = .int .i64 k ∧ u = .bool ((rs.take k).any fun r : Row => riseB r.xs) ∧ d = .bool ((rs.take k).any fun r : Row => fallB r.xs) ∧ Below w.heap.size w wr) (fun _ _ i _ => rs.length - (intOf i).toNat)
    case atStart => exact ⟨0, Nat.zero_le _, rfl, rfl, rfl, Below.refl _ _⟩
    case round =>
      obtain ⟨k, hk, rfl, rfl, rfl, hb⟩ := hrel
      by_cases hlt : k < rs.length
      · have HT1 := Lib.hid (show (rs.take (k + 1)).any (fun r : Row => riseB r.xs) = ((rs.take k).any (fun r : Row => riseB r.xs) || riseB rs[k].xs) by rw [List.take_succ_eq_append_getElem hlt, List.any_append]; simp)
        have HT2 := Lib.hid (show (rs.take (k + 1)).any (fun r : Row => fallB r.xs) = ((rs.take k).any (fun r : Row => fallB r.xs) || fallB rs[k].xs) by rw [List.take_succ_eq_append_getElem hlt, List.any_append]; simp)
        have hl8 := hr8 _ (List.getElem_mem hlt)
        go_wp2_with fail
        (with_reducible refine (basis_sb A c rs wr true (h.next hb) H1.out).mono ?_)
        rintro e w1 ⟨rfl, hb1⟩
        have hb1 := hb.trans (hb1.mono hb.size)
        obtain ⟨b, off, rfl, _, hc⟩ := (h.next hb1).read.at (by omega)
        have cc := hc k hlt
        have hin := (h.next hb1).row (List.getElem_mem hlt)
        clear hc
        rcases hU : (rs.take k).any (fun r : Row => riseB r.xs) with _ | _
        case' false =>
          have HV := Lib.hid (show (rs.take (k + 1)).any (fun r : Row => riseB r.xs) = riseB rs[k].xs by rw [HT1.out, hU, Bool.false_or])
          clear hU
          go_wp2_with fail
          (with_reducible refine (straight_b rs[k].A rs[k].c rs[k].xs.length rs[k].xs w1 _ rfl hl8 hin.rd rfl).mono ?_)
          rintro e w2 ⟨rfl, hb2⟩
          have hb2 := hb1.trans (hb2.mono hb1.size)
        case' true =>
          have HV := Lib.hid (show (rs.take (k + 1)).any (fun r : Row => riseB r.xs) = true by rw [HT1.out, hU, Bool.true_or])
          clear hU
          obtain ⟨w2, hw2⟩ : ∃ w2, w2 = w1 := ⟨_, rfl⟩
          subst hw2
          have hb2 := hb1
        all_goals
          rcases hD : (rs.take k).any (fun r : Row => fallB r.xs) with _ | _
          case' false =>
            have HW := Lib.hid (show (rs.take (k + 1)).any (fun r : Row => fallB r.xs) = fallB rs[k].xs by rw [HT2.out, hD, Bool.false_or])
            clear hD
            have hin2 := (h.next hb2).row (List.getElem_mem hlt)
            have cc2 : w2.cell? ⟨b, off + k, none⟩ = some (Value.slice rs[k].A rs[k].xs.length rs[k].c) := (h.next hb2).read.cellAt k hlt
            go_wp2_with fail
            all_goals
              (with_reducible refine (l3Reverse_any rs[k].A rs[k].c rs[k].xs.length rs[k].xs w2 rfl (by omega) hin2.rd).mono ?_)
              rintro e w3 ⟨A3, c3, rfl, _, _, own3, hb3⟩
              have hb3 := hb2.trans (hb3.mono hb2.size)
              have hr3 := Rd.of_own own3
              have HR := Lib.hid (fall_rev rs[k].xs)
              clear own3
              go_wp2_with fail
              (with_reducible refine (straight_b A3 c3 rs[k].xs.length rs[k].xs.reverse w3 (fallB rs[k].xs) List.length_reverse hl8 hr3 HR.out).mono ?_)
              rintro e w4 ⟨rfl, hb4⟩
              have hb4 := hb3.trans (hb4.mono hb3.size)
              go_wp2_with fail
              go_roundw
              case rel => exact ⟨k + 1, by omega, by go_num, by rw [HV.out], by rw [HW.out], hb4⟩
              case measure => simp [intOf]; omega
          case' true =>
            have HW := Lib.hid (show (rs.take (k + 1)).any (fun r : Row => fallB r.xs) = true by rw [HT2.out, hD, Bool.true_or])
            clear hD
            go_wp2_with fail
            go_roundw
            case rel => exact ⟨k + 1, by omega, by go_num, by rw [HV.out], by rw [HW.out], hb2⟩
            case measure => simp [intOf]; omega
      · obtain rfl : k = rs.length := by omega
        have HE := Lib.hid (List.take_length (l := rs))
        rw [HE.out]
        rcases hU : rs.any (fun r : Row => riseB r.xs) with _ | _
        · have HU := Lib.hid hU
          clear hU
          go_wp2_with fail
          go_ret
          exact ⟨ret_bool (by rw [HG.out, HU.out, Bool.false_and]), hb⟩
        · have HU := Lib.hid hU
          clear hU
          go_wp2_with fail
          go_ret
          exact ⟨ret_bool (by rw [HG.out, HU.out, Bool.true_and]), hb⟩
  · have hBf : basisB (rs.map Row.xs) = false := by simpa using hB
    have H1 := Lib.hid hBf
    have HG := Lib.hid (show finG (rs.map Row.xs) = false by unfold finG; rw [hBf]; rfl)
    clear hB hBf
    go_enter Try.func30, Try.ntmps30
    go_wp2_with fail
    go_loopw [3, 4, 5] (fun u d i wr => i = .int .i64 0 ∧ u = .bool false ∧ d = .bool false ∧ Below w.heap.size w wr) (fun _ _ _ _ => 0)
    case atStart => exact ⟨rfl, rfl, rfl, Below.refl _ _⟩
    case round =>
      obtain ⟨rfl, rfl, rfl, hb⟩ := hrel
      rcases Nat.eq_zero_or_pos rs.length with h0 | h0
      · have d0 : ¬ (0 < rs.length) := by omega
        have d1 : rs.length ≤ 0 := by omega
        clear h0
        go_wp2_with fail
        go_ret
        exact ⟨ret_bool (by rw [HG.out]), hb⟩
      · go_wp2_with fail
        (with_reducible refine (basis_sb A c rs wr false (h.next hb) H1.out).mono ?_)
        rintro e w1 ⟨rfl, hb1⟩
        go_wp2_with fail
        go_ret
        exact ⟨ret_bool (by rw [HG.out]), hb.trans (hb1.mono hb.size)⟩
end Go.Proofs.Ytmkaelefljjamaa
