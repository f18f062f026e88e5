/- Several texts in one, each with its own head: V1, V4, V3, V2. No program of ours. -/
import Derived.RegionTactic
import Derived.ChangeAlike
import Derived.Test.YtodloeonlaljpaaGreatMMeets5
/- A list from its end: slices.Reverse in place, reverse, l3Reverse; ascending and descending lists. -/
namespace Go.Proofs.YtodloeonlaljpaaGreat
set_option maxRecDepth 100000
open Go Go.RowKit

/-- The cell of a list's row, the list's address known. -/
theorem Read.cellAt {w : World} {B b off c : Nat} {rs : List Row} (h : Read w B rs [⟨some ⟨b, off, none⟩, c, rs.map Row.v⟩]) (j : Nat) (hj : j < rs.length) : w.cell? ⟨b, off + j, none⟩ = some (Value.slice rs[j].A rs[j].xs.length rs[j].c) := by
  obtain ⟨b', off', he, _, hc⟩ := h.at (by omega)
  injection he with he
  injection he with he1 he2 _
  subst he1 he2
  exact hc j hj
/-- The first and the last i places are exchanged. -/
def revTo (xs : List Int) (i : Nat) : List Int := (List.range xs.length).map fun t => if t < i ∨ xs.length ≤ t + i then xs[xs.length - 1 - t]?.getD 0 else xs[t]?.getD 0
theorem revTo_length (xs : List Int) (i : Nat) : (revTo xs i).length = xs.length := by simp [revTo]
theorem revTo_get (xs : List Int) (i t : Nat) (h : t < xs.length) : (revTo xs i)[t]? = some (if t < i ∨ xs.length ≤ t + i then xs[xs.length - 1 - t]?.getD 0 else xs[t]?.getD 0) := by
  simp [revTo, h]
theorem revTo_zero (xs : List Int) : revTo xs 0 = xs := by
  apply List.ext_getElem?
  intro t
  by_cases h : t < xs.length
  · rw [revTo_get xs 0 t h, if_neg (by omega), List.getElem?_eq_getElem h]; rfl
  · rw [List.getElem?_eq_none (by rw [revTo_length]; omega), List.getElem?_eq_none (by omega)]
theorem revTo_all (xs : List Int) (i : Nat) (h : xs.length ≤ 2 * i + 1) : revTo xs i = xs.reverse := by
  apply List.ext_getElem?
  intro t
  by_cases ht : t < xs.length
  · rw [revTo_get xs i t ht, List.getElem?_reverse ht]
    by_cases hc : t < i ∨ xs.length ≤ t + i
    · rw [if_pos hc, List.getElem?_eq_getElem (by omega)]; rfl
    · rw [if_neg hc]
      have : xs.length - 1 - t = t := by omega
      rw [this, List.getElem?_eq_getElem ht]; rfl
  · rw [List.getElem?_eq_none (by rw [revTo_length]; omega), List.getElem?_eq_none (by rw [List.length_reverse]; omega)]
theorem revTo_succ (xs : List Int) (i : Nat) (h : 2 * i + 1 < xs.length) : ((revTo xs i).set i (xs[xs.length - 1 - i]?.getD 0)).set (xs.length - 1 - i) (xs[i]?.getD 0) = revTo xs (i + 1) := by
  apply List.ext_getElem?
  intro t
  by_cases ht : t < xs.length
  · rw [revTo_get xs (i + 1) t ht, List.getElem?_set, List.getElem?_set, List.length_set, revTo_length, revTo_get xs i t ht]
    by_cases h1 : xs.length - 1 - i = t
    · subst h1
      rw [if_pos rfl, if_pos (by omega), if_pos (by omega)]
      rw [show xs.length - 1 - (xs.length - 1 - i) = i by omega]
    · rw [if_neg h1]
      by_cases h2 : i = t
      · subst h2
        rw [if_pos rfl, if_pos (by omega), if_pos (by omega)]
      · rw [if_neg h2]
        by_cases h3 : t < i ∨ xs.length ≤ t + i
        · rw [if_pos h3, if_pos (by omega)]
        · rw [if_neg h3, if_neg (by omega)]
  · rw [List.getElem?_eq_none (by rw [List.length_set, List.length_set, revTo_length]; omega), List.getElem?_eq_none (by rw [revTo_length]; omega)]
theorem revTo_at (xs : List Int) (i t : Nat) (h : t < xs.length) (h1 : i ≤ t) (h2 : t + i < xs.length) : ((revTo xs i).map (Value.int .i64))[t]? = some (.int .i64 xs[t]) := by
  rw [List.getElem?_map, revTo_get xs i t h, if_neg (by omega), List.getElem?_eq_getElem h]; rfl

set_option maxHeartbeats 4000000 in
theorem reverse_own (A : Option Addr) (c base n : Nat) (xs : List Int) (w : World) (hn : xs.length = n) (hl : n ≤ 1048576) (h : w.ownsRow base 3 1 (.slice A n c) n (xs.map (Value.int .i64))) :
    Calls Tryz.prog 116 #[.slice A n c] w fun e w' => e = .returned (.tuple #[]) ∧ w'.ownsRow base 3 1 (.slice A n c) n (xs.reverse.map (Value.int .i64)) ∧ w.grownBy w' (Value.slice A n c).ownBlock := by
  have h0 : w.ownsRow base 3 1 (.slice A n c) n ((revTo xs 0).map (Value.int .i64)) := by rw [revTo_zero]; exact h
  have HN := Lib.hid hn
  have hn1 : xs.length ≤ n := by omega
  have hn2 : n ≤ xs.length := by omega
  clear hn
  go_enter Tryz.func116, Tryz.ntmps116
  go_wp2_with fail
  go_loopw [2, 3] (fun i j wr => ∃ k : Nat, 2 * k ≤ n + 1 ∧ i = .int .i64 k ∧ j = .int .i64 ((n : Int) - 1 - k) ∧ wr.ownsRow base 3 1 (.slice A n c) n ((revTo xs k).map (Value.int .i64)) ∧ w.grownBy wr (Value.slice A n c).ownBlock) (fun i _ _ => n - (intOf i).toNat)
  case atStart => exact ⟨0, by omega, rfl, by simp, h0, World.grownBy.refl _ _⟩
  case round =>
    clear h0 h
    obtain ⟨k, hk, rfl, rfl, hown, hg⟩ := hrel
    by_cases hlt : 2 * k + 1 < n
    · obtain ⟨g, cap, hv, _, _⟩ := hown.form (by omega)
      have hA : A = some ⟨g, 0, none⟩ := by injection hv
      subst hA
      clear hv
      have hki : k < xs.length := by omega
      obtain ⟨j, hj⟩ : ∃ j : Nat, (j : Int) = (n : Int) - 1 - k := ⟨n - 1 - k, by omega⟩
      have hjx : j < xs.length := by omega
      have hkj : k < j := by omega
      have c1 := (hown.cellAt k (by omega)).trans (revTo_at xs k k hki (Nat.le_refl _) (by omega))
      have c2 := (hown.cellAt j (by omega)).trans (revTo_at xs k j hjx (by omega) (by omega))
      have z1 := hown.frozenAt k
      have z2 := hown.frozenAt j
      have HJ := Lib.hid hj
      have hj1 : (k : Int) < (j : Int) := by omega
      have hj2 : (j : Int) < (n : Int) := by omega
      rw [← hj]
      clear hj
      have hst1 := hown.stored k (.int .i64 xs[j])
      have hst2 := hst1.1.stored j (.int .i64 xs[k])
      have hfin : (((wr.setCell ⟨g, k, none⟩ (.int .i64 xs[j])).setCell ⟨g, j, none⟩ (.int .i64 xs[k])).drew).ownsRow base 3 1 (.slice (some ⟨g, 0, none⟩) n c) n ((revTo xs (k + 1)).map (Value.int .i64)) := by
        have h1 := hst2.1
        rw [← revTo_succ xs k (by omega), List.map_set, List.map_set, List.getElem?_eq_getElem (show xs.length - 1 - k < xs.length by omega), List.getElem?_eq_getElem hki]
        have e : xs.length - 1 - k = j := by have := HJ.out; omega
        simp only [e, Option.getD_some]
        exact h1
      have hgf : w.grownBy (((wr.setCell ⟨g, k, none⟩ (.int .i64 xs[j])).setCell ⟨g, j, none⟩ (.int .i64 xs[k])).drew) (Value.slice (some ⟨g, 0, none⟩) n c).ownBlock := by
        have h1 := grown_trans hg (grown_trans hst1.2 hst2.2)
        exact ⟨h1.os, h1.tape, h1.output, h1.size, h1.block⟩
      have K := Lib.hid (And.intro hfin hgf)
      clear hst1 hst2 hfin hgf hown hg
      go_wp2_with fail
      go_region
      all_goals
        clear c1 c2 z1 z2
        go_wp2_with fail
        go_roundw
        case rel => exact ⟨k + 1, by omega, by go_num, by have := HJ.out; congr 1; push_cast; omega, K.out.1, K.out.2⟩
        case measure => simp [intOf]; omega
    · have hlt' : ¬ ((k : Int) < (n : Int) - 1 - k) := by omega
      have hle' : (n : Int) - 1 - k ≤ (k : Int) := by omega
      have HR := Lib.hid (show revTo xs k = xs.reverse from revTo_all xs k (by have := HN.out; omega))
      rw [HR.out] at hown
      go_wp2_with fail
      go_end0
      exact ⟨rfl, by first | exact hown | simpa using hown, hg⟩
set_option maxHeartbeats 800000 in
theorem reverse_impl (A : Option Addr) (c : Nat) (xs : List Int) (w : World) (h : In w A c xs) :
    Calls Tryz.prog 88 #[.slice A xs.length c] w (Ret (Value.int .i64) 3 w xs.reverse) := by
  have hl := h.len
  go_enter Tryz.func88, Tryz.ntmps88
  go_wp2_with fail
  (with_reducible refine (clone_any A c xs w h).mono ?_)
  rintro e w1 ⟨A1, c1, rfl, q1, q2, hown, hb1⟩
  go_wp2_with fail
  (with_reducible refine (reverse_own A1 c1 w.heap.size xs.length xs w1 rfl hl hown).mono ?_)
  rintro e w2 ⟨rfl, hown2, hg⟩
  go_wp2_with fail
  go_ret
  exact ⟨A1, c1, by rw [List.length_reverse]; rfl, by rw [List.length_reverse]; exact q1, q2, by rw [List.length_reverse]; exact hown2, hb1.grown hg hb1.size (fun g hg => (hown.lt g hg).1)⟩
theorem rev_take (xs : List Int) (k : Nat) (h : k < xs.length) : (xs.drop k).reverse = (xs.drop (k + 1)).reverse ++ [xs[k]] := by
  rw [List.drop_eq_getElem_cons h, List.reverse_cons]
set_option maxHeartbeats 1000000 in
theorem l3Reverse_any (A : Option Addr) (c n : Nat) (xs : List Int) (w : World) (hn : xs.length = n) (hl : n ≤ 1048576) (hx : Rd (Value.int .i64) w w.heap.size A xs) :
    Calls Tryz.prog 54 #[.slice A n c] w (Ret (Value.int .i64) 3 w xs.reverse) := by
  obtain ⟨i0, hi, hz0, hz1, hz2⟩ := info_parts infoI
  have HN := Lib.hid hn
  have hn1 : xs.length ≤ n := by omega
  have hn2 : n ≤ xs.length := by omega
  clear hn
  have hown0 : (w.alloc (.cells #[] 3)).ownsRow w.heap.size 3 1 (.slice (some ⟨w.heap.size, 0, none⟩) 0 0) 0 (((xs.drop n).reverse).map (Value.int .i64)) := by
    rw [List.drop_of_length_le hn1]
    exact World.ownsRow_lit w #[] 0 (Nat.le_refl _) (by unfold maxLen; omega) rfl
  have hb0 := (Below.refl w.heap.size w).alloc (Nat.le_refl _) (.cells #[] 3)
  go_enter Tryz.func54, Tryz.ntmps54
  go_wp2_with fail
  go_loopw [3, 4] (fun v i wr => ∃ (k m : Nat) (A1 : Option Addr) (c1 : Nat), k ≤ n ∧ m = n - k ∧ i = .int .i64 ((k : Int) - 1) ∧ v = .slice A1 m c1 ∧ wr.ownsRow w.heap.size 3 1 (.slice A1 m c1) m (((xs.drop k).reverse).map (Value.int .i64)) ∧ Below w.heap.size w wr) (fun _ i _ => (intOf i + 1).toNat)
  case atStart => exact ⟨n, 0, _, _, Nat.le_refl _, by omega, rfl, rfl, hown0, hb0⟩
  case round =>
    clear hown0 hb0
    obtain ⟨k, m, A1, c1, hk, hm, rfl, rfl, hown, hb⟩ := hrel
    have hmn : m ≤ n := by omega
    have HM := Lib.hid hm
    have hsz := hb.size
    clear hm
    rcases Nat.eq_zero_or_pos k with h0 | h0
    · subst h0
      have hneg : ¬ ((0 : Int) ≤ ((0 : Nat) : Int) - 1) := by omega
      have HE := Lib.hid (show m = xs.reverse.length by rw [List.length_reverse]; have := HM.out; omega)
      rw [List.drop_zero] at hown
      go_wp2_with fail
      go_ret
      exact ⟨A1, c1, by rw [← HE.out]; rfl, by rw [← HE.out]; exact (own_caps hown).1, (own_caps hown).2, by rw [← HE.out]; first | exact hown | simpa using hown, hb⟩
    · obtain ⟨j, hj⟩ : ∃ j : Nat, (j : Int) = (k : Int) - 1 := ⟨k - 1, by omega⟩
      have hjx : j < xs.length := by omega
      obtain ⟨b, off, rfl, _, hc⟩ := (hx.next hb) (by omega)
      have cc := hc j hjx
      have HT := Lib.hid (show (xs.drop j).reverse = (xs.drop k).reverse ++ [xs[j]] by rw [rev_take xs j hjx, show j + 1 = k by omega])
      have HJ := Lib.hid hj
      have hjn : j < n := by omega
      have hjk : j < k := by omega
      have HMJ := Lib.hid (show m + 1 = n - j by have := HM.out; omega)
      rw [← hj]
      clear hc hj
      go_wp2_with (at_builtin; refine wpList_append_own _ rfl _ _ 36 rfl (w.heap.size) 3 i0 (.int .i64 0) 1 8 Tryz.underlying36 hi hz0 hz1 hz2 rfl (by decide) _ _ _ rfl (World.ownsRow.alloc hown _) ⟨wr.heap.size, 0, none⟩ 1 1 [.int .i64 (xs[j])] rfl rfl (cell_one_new _ _ _) (by intro u hu; simp at hu; subst hu; rfl) (by unfold maxLen; omega) (by omega) (by simp; omega) ?_; intro v1 w1 hown1 hgrow1 _)
      have hS2 : w1.ownsRow w.heap.size 3 1 v1 (m + 1) (((xs.drop j).reverse).map (Value.int .i64)) := by rw [HT.out]; simpa using hown1
      have hb1 := (hb.alloc hsz (Obj.cells #[Value.int .i64 xs[j]] 3)).grown hgrow1 (by simp; omega) (by intro g hg; exact ((hown.lt g hg).1))
      obtain ⟨A2, c2, rfl, _, _⟩ := own_shape hS2
      have H1 := Lib.hid hS2
      have H2 := Lib.hid hb1
      clear hS2 hown1 hgrow1 hb1 hown hb
      go_wp2
      go_roundw
      case rel => exact ⟨j, m + 1, A2, c2, by omega, HMJ.out, by go_num, rfl, H1.out, H2.out⟩
      case measure => (simp [intOf]) <;> omega
theorem less_b (x y : Int) (w : World) (b : Bool) (hb : decide (x < y) = b) : Calls Tryz.prog 120 #[.int .i64 x, .int .i64 y] w fun e w' => e = .returned (.bool b) ∧ w = w' := by
  subst hb
  go_enter Tryz.func120, Tryz.ntmps120
  go_wp2_with fail
  (with_reducible refine (isNaN_any x w).mono ?_)
  rintro e w' ⟨rfl, rfl⟩
  go_wp2_with fail
  go_ret
  exact ⟨rfl, rfl⟩
/-- Ascending by neighbors. -/
def sortB (xs : List Int) : Bool := (List.range (xs.length - 1)).all fun i => decide (xs[i]?.getD 0 ≤ xs[i + 1]?.getD 0)
theorem nums_get (n i : Nat) (h : i < n) : (nums n)[i]? = some ((i : Int) + 1) := by simp [nums, h]
theorem sort_perm {xs : List Int} (h : permB xs = true) : sortB xs = decide (xs = nums xs.length) := by
  obtain ⟨_, hr, hn⟩ := permB_true h
  rw [Bool.eq_iff_iff, decide_eq_true_eq]
  constructor
  · intro hs
    have hlt : ∀ i (h1 : i + 1 < xs.length), xs[i] < xs[i + 1] := fun i h1 => by
      have h2 := List.all_eq_true.1 hs i (List.mem_range.2 (by omega))
      rw [List.getElem?_eq_getElem (show i < xs.length by omega), List.getElem?_eq_getElem h1] at h2
      have h3 : xs[i] ≤ xs[i + 1] := by simpa using h2
      rcases Int.lt_or_eq_of_le h3 with h4 | h4
      · exact h4
      · have := nodup_inj hn _ _ h4
        omega
    have hge : ∀ i (h1 : i < xs.length), (i : Int) + 1 ≤ xs[i] := by
      intro i
      induction i with
      | zero => intro h1; have := (hr xs[0] (List.getElem_mem h1)).1; omega
      | succ i ih => intro h1; have h2 := ih (by omega); have h3 := hlt i h1; push_cast; omega
    have hle : ∀ d i (h1 : i < xs.length), xs.length - 1 - i = d → xs[i] ≤ (i : Int) + 1 := by
      intro d
      induction d with
      | zero => intro i h1 hd; have := (hr xs[i] (List.getElem_mem h1)).2; omega
      | succ d ih => intro i h1 hd; have h2 := ih (i + 1) (by omega) (by omega); have h3 := hlt i (by omega); push_cast at h2; omega
    apply List.ext_getElem?
    intro i
    by_cases hi : i < xs.length
    · rw [nums_get _ _ hi, List.getElem?_eq_getElem hi]
      have h1 := hge i hi
      have h2 := hle _ i hi rfl
      congr 1
      omega
    · rw [List.getElem?_eq_none (by omega), List.getElem?_eq_none (by rw [nums_length]; omega)]
  · intro he
    unfold sortB
    rw [List.all_eq_true]
    intro i hi
    have hi := List.mem_range.1 hi
    have h1 : xs[i]? = some ((i : Int) + 1) := by rw [he]; exact nums_get _ _ (by omega)
    have h2 : xs[i + 1]? = some (((i + 1 : Nat) : Int) + 1) := by rw [he]; exact nums_get _ _ (by omega)
    rw [h1, h2]
    simp only [Option.getD_some, decide_eq_true_eq]
    push_cast
    omega
set_option maxHeartbeats 1000000 in
theorem isSorted_b (A : Option Addr) (c n : Nat) (xs : List Int) (w : World) (b : Bool) (hn : xs.length = n) (hl : n ≤ 1048576) (hx : Rd (Value.int .i64) w w.heap.size A xs) (hb : sortB xs = b) :
    Calls Tryz.prog 99 #[.slice A n c] w (Rq w (.bool b)) := by
  have HB := Lib.hid hb
  have HN := Lib.hid hn
  have hn1 : xs.length ≤ n := by omega
  have hn2 : n ≤ xs.length := by omega
  clear hn hb
  go_enter Tryz.func99, Tryz.ntmps99
  go_wp2_with fail
  go_loopw [3] (fun i wr => ∃ t : Nat, t ≤ n ∧ i = .int .i64 ((n : Int) - 1 - t) ∧ Hid (∀ j, n ≤ j + t + 1 → j + 1 < n → xs[j]?.getD 0 ≤ xs[j + 1]?.getD 0) ∧ Dr w wr) (fun i _ => (intOf i + 1).toNat)
  case atStart => exact ⟨0, Nat.zero_le _, by simp, Lib.hid (fun j h1 h2 => by omega), Dr.refl _⟩
  case round =>
    obtain ⟨t, ht, rfl, HS, hd⟩ := hrel
    by_cases hpos : t + 1 < n
    · obtain ⟨m, hm⟩ : ∃ m : Nat, (m : Int) + 1 = (n : Int) - 1 - t := ⟨n - 2 - t, by omega⟩
      have hm1 : m + 1 < xs.length := by omega
      have hm0 : m < xs.length := by omega
      have hmn : m + 1 < n := by omega
      obtain ⟨b', off, rfl, _, hc⟩ := hx (by omega)
      have c1 : wr.cell? ⟨b', off + (m + 1), none⟩ = some (.int .i64 xs[m + 1]) := (hd.cell _).trans (hc (m + 1) hm1)
      have c2 : wr.cell? ⟨b', off + m, none⟩ = some (.int .i64 xs[m]) := (hd.cell _).trans (hc m hm0)
      have HM := Lib.hid hm
      have e1 : IntKind.i64.wrap ((m : Int) + 1 - 1) = (m : Int) := by rw [Int.add_sub_cancel]; exact IntWalk.i64_in _ (by omega)
      have e2 : ((m : Int) + 1).toNat = m + 1 := by omega
      have e3 : 0 ≤ (m : Int) + 1 := by omega
      have e4 : (m : Int) + 1 < (n : Int) := by omega
      have e5 : (m : Int) < (n : Int) := by omega
      rw [← hm]
      clear hc hm
      by_cases hlt : xs[m + 1] < xs[m]
      · have HD := Lib.hid (decide_eq_true hlt)
        have HF := Lib.hid (show sortB xs = false by
          unfold sortB
          rw [List.all_eq_false]
          refine ⟨m, List.mem_range.2 (by omega), ?_⟩
          rw [List.getElem?_eq_getElem hm0, List.getElem?_eq_getElem hm1]
          simp only [Option.getD_some, decide_eq_true_eq]
          omega)
        clear hlt
        go_wp2_with fail
        go_quiet ((go_at_call 120; exact quiet_eq (less_b xs[m + 1] xs[m] _ true HD.out)))
        go_wp2_with fail
        go_ret
        exact ⟨ret_bool (by rw [← HB.out, HF.out]), (by first | with_reducible assumption | with_reducible exact hd | with_reducible exact Dr.drewN hd _ | with_reducible exact Dr.drewN (Dr.drewN hd _) _ | with_reducible exact Dr.drew hd)⟩
      · have HD := Lib.hid (decide_eq_false hlt)
        have HT := Lib.hid (show ∀ j, n ≤ j + (t + 1) + 1 → j + 1 < n → xs[j]?.getD 0 ≤ xs[j + 1]?.getD 0 from fun j h1 h2 => by
          by_cases hj : n ≤ j + t + 1
          · exact HS.out j hj h2
          · obtain rfl : j = m := by have := HM.out; omega
            rw [List.getElem?_eq_getElem hm0, List.getElem?_eq_getElem hm1]
            simp only [Option.getD_some]
            omega)
        clear hlt
        go_wp2_with fail
        go_quiet ((go_at_call 120; exact quiet_eq (less_b xs[m + 1] xs[m] _ false HD.out)))
        go_wp2_with fail
        go_roundw
        case rel => exact ⟨t + 1, by omega, by have := HM.out; congr 1; push_cast; omega, HT, (by first | with_reducible assumption | with_reducible exact hd | with_reducible exact Dr.drewN hd _ | with_reducible exact Dr.drewN (Dr.drewN hd _) _ | with_reducible exact Dr.drew hd)⟩
        case measure => (simp [intOf]) <;> omega
    · have hle : (n : Int) - 1 - t ≤ 0 := by omega
      have HF := Lib.hid (show sortB xs = true by
        unfold sortB
        rw [List.all_eq_true]
        intro j hj
        have hj := List.mem_range.1 hj
        have := HS.out j (by omega) (by omega)
        simpa using this)
      go_wp2_with fail
      go_ret
      exact ⟨ret_bool (by rw [← HB.out, HF.out]), hd⟩
set_option maxHeartbeats 800000 in
theorem identityPerm_spec (n : Nat) (w : World) (hn : n ≤ 8) :
    Calls Tryz.prog 53 #[.int .i64 n] w (Ret (Value.int .i64) 3 w (nums n)) := by
  obtain ⟨i0, hi, hz0, hz1, hz2⟩ := info_parts infoI
  go_enter Tryz.func53, Tryz.ntmps53
  go_wp2_with fail
  have hown0 : (w.alloc (.cells #[] 3)).ownsRow w.heap.size 3 1 (.slice (some ⟨w.heap.size, 0, none⟩) 0 0) 0 ((nums 0).map (Value.int .i64)) := World.ownsRow_lit w #[] 0 (Nat.le_refl _) (by unfold maxLen; omega) rfl
  have hb0 := (Below.refl w.heap.size w).alloc (Nat.le_refl _) (.cells #[] 3)
  go_loopw [3, 4] (fun v i wr => ∃ (k : Nat) (A : Option Addr) (c : Nat), k ≤ n ∧ i = .int .i64 ((k : Int) + 1) ∧ v = .slice A k c ∧ wr.ownsRow w.heap.size 3 1 (.slice A k c) k ((nums k).map (Value.int .i64)) ∧ Below w.heap.size w wr) (fun _ i _ => n + 1 - (intOf i).toNat)
  case atStart => exact ⟨0, _, _, Nat.zero_le _, rfl, rfl, hown0, hb0⟩
  case round =>
    clear hown0 hb0
    obtain ⟨k, A', c', hk, rfl, rfl, hown, hb⟩ := hrel
    have hsz := hb.size
    rcases Nat.lt_or_ge k n with hlt | hge
    · have HS := Lib.hid (nums_succ k)
      go_wp2_with (at_builtin; refine wpList_append_own _ rfl _ _ 36 rfl (w.heap.size) 3 i0 (.int .i64 0) 1 8 Tryz.underlying36 hi hz0 hz1 hz2 rfl (by decide) _ _ _ rfl (World.ownsRow.alloc hown _) ⟨wr.heap.size, 0, none⟩ 1 1 [.int .i64 ((k : Int) + 1)] rfl rfl (cell_one_new _ _ _) (by intro u hu; simp at hu; subst hu; rfl) (by unfold maxLen; omega) (by omega) (by simp; omega) ?_; intro v1 w1 hown1 hgrow1 _)
      have hb1 := (hb.alloc hsz (Obj.cells #[Value.int .i64 ((k : Int) + 1)] 3)).grown hgrow1 (by simp; omega) (by intro g hg; exact ((hown.lt g hg).1))
      have hS2 : w1.ownsRow w.heap.size 3 1 v1 (k + 1) ((nums (k + 1)).map (Value.int .i64)) := by rw [HS.out]; simpa using hown1
      obtain ⟨A1, cc, rfl, _, _⟩ := own_shape hS2
      have hH1 := Lib.hid hS2
      have hH2 := Lib.hid hb1
      clear hS2 hown1 hgrow1 hb1 hown hb
      go_wp2
      go_roundw
      case rel => exact ⟨k + 1, A1, cc, by omega, by go_num, rfl, hH1.out, hH2.out⟩
      case measure => simp [intOf]; omega
    · obtain rfl : k = n := by omega
      have HL := Lib.hid (nums_length k)
      go_wp2
      go_ret
      exact ⟨A', c', by rw [HL.out]; rfl, by rw [HL.out]; exact (own_caps hown).1, (own_caps hown).2, by rw [HL.out]; exact hown, hb⟩
end Go.Proofs.YtodloeonlaljpaaGreat

/- ReversePerm and InversePerm of the reference. -/
namespace Go.Proofs.YtodloeonlaljpaaGreat
set_option maxRecDepth 100000
open Go Go.RowKit

def revG (p : List Int) : List Int := if permB p = true then p.reverse else []
theorem revG_length (p : List Int) : (revG p).length ≤ p.length := by unfold revG; split <;> simp
end Go.Proofs.YtodloeonlaljpaaGreat

/- IsSumClosed, program and reference. -/
namespace Go.Proofs.YtodloeonlaljpaaGreat
set_option maxRecDepth 100000
open Go Go.RowKit

/-- The greatest of the first k. -/
def pmax (p : List Int) (k : Nat) : Int := (p.take k).foldl max 0
theorem pmax_succ (p : List Int) (k : Nat) (h : k < p.length) : pmax p (k + 1) = max (pmax p k) p[k] := by
  unfold pmax
  rw [List.take_succ_eq_append_getElem h, List.foldl_append]; rfl
theorem pmax_bd {p : List Int} (hb : ∀ v ∈ p, 1 ≤ v ∧ v ≤ 8) (k : Nat) : 0 ≤ pmax p k ∧ pmax p k ≤ 8 := by
  induction k with
  | zero => simp [pmax]
  | succ k ih =>
    by_cases h : k < p.length
    · rw [pmax_succ p k h]
      have := hb p[k] (List.getElem_mem h)
      omega
    · unfold pmax at ih ⊢
      rw [List.take_of_length_le (by omega)] at ih ⊢
      exact ih
/-- How many sum parts end within the first k. -/
def sumN (p : List Int) (k : Nat) : Nat := ((List.range k).filter fun i => decide (pmax p (i + 1) = (i : Int) + 1)).length
theorem sumN_succ (p : List Int) (k : Nat) : sumN p (k + 1) = if pmax p (k + 1) = (k : Int) + 1 then sumN p k + 1 else sumN p k := by
  unfold sumN
  rw [List.range_succ, List.filter_append]
  by_cases h : pmax p (k + 1) = (k : Int) + 1 <;> simp [h]
theorem sumN_le (p : List Int) (k : Nat) : sumN p k ≤ k := Nat.le_trans (List.length_filter_le _ _) (by simp)
def scG (X : List (List Int)) : Bool := basisB X && !X.any fun p => decide (1 < sumN p p.length)
/-- A call's result: a list of n rows, whatever they are. -/
def RetLen (w : World) (n : Nat) (e : Ending) (w' : World) : Prop := ∃ A c, e = .returned (.slice A n c) ∧ Below w.heap.size w w'

set_option maxHeartbeats 800000 in
theorem raised_any (A : Option Addr) (c n : Nat) (xs : List Int) (x : Int) (w : World) (hn : xs.length = n) (hl : n ≤ 1048576) (hx : Rd (Value.int .i64) w w.heap.size A xs) (hv : ∀ v ∈ xs, 1 ≤ v ∧ v ≤ 1048576) (hx1 : -1048576 ≤ x ∧ x ≤ 1048576) :
    Calls Tryz.prog 101 #[.slice A n c, .int .i64 x] w (Ret (Value.int .i64) 3 w (xs.map (· + x))) := by
  obtain ⟨i0, hi, hz0, hz1, hz2⟩ := info_parts infoI
  have HN := Lib.hid hn
  have hn1 : xs.length ≤ n := by omega
  have hn2 : n ≤ xs.length := by omega
  clear hn
  have hown0 : (w.alloc (.cells #[] 3)).ownsRow w.heap.size 3 1 (.slice (some ⟨w.heap.size, 0, none⟩) 0 0) 0 (((xs.take 0).map (· + x)).map (Value.int .i64)) := World.ownsRow_lit w #[] 0 (Nat.le_refl _) (by unfold maxLen; omega) rfl
  have hb0 := (Below.refl w.heap.size w).alloc (Nat.le_refl _) (.cells #[] 3)
  go_enter Tryz.func101, Tryz.ntmps101
  go_wp2_with fail
  go_loopw [5, 11] (fun v i wr => ∃ (k : Nat) (A1 : Option Addr) (c1 : Nat), k ≤ n ∧ i = .int .i64 k ∧ v = .slice A1 k c1 ∧ wr.ownsRow w.heap.size 3 1 (.slice A1 k c1) k (((xs.take k).map (· + x)).map (Value.int .i64)) ∧ Below w.heap.size w wr) (fun _ i _ => n - (intOf i).toNat)
  case atStart => exact ⟨0, _, _, Nat.zero_le _, rfl, rfl, hown0, hb0⟩
  case round =>
    clear hown0 hb0
    obtain ⟨k, A1, c1, hk, rfl, rfl, hown, hb⟩ := hrel
    have hsz := hb.size
    rcases Nat.lt_or_ge k n with hlt | hge
    · have hkx : k < xs.length := by omega
      obtain ⟨b, off, rfl, _, hc⟩ := (hx.next hb) (by omega)
      have cc := hc k hkx
      have hvk := hv xs[k] (List.getElem_mem hkx)
      have HT := Lib.hid (show (xs.take (k + 1)).map (· + x) = (xs.take k).map (· + x) ++ [xs[k] + x] by rw [List.take_succ_eq_append_getElem hkx, List.map_append]; rfl)
      clear hc
      go_wp2_with (at_builtin; refine wpList_append_own _ rfl _ _ 36 rfl (w.heap.size) 3 i0 (.int .i64 0) 1 8 Tryz.underlying36 hi hz0 hz1 hz2 rfl (by decide) _ _ _ rfl (World.ownsRow.alloc hown _) ⟨wr.heap.size, 0, none⟩ 1 1 [.int .i64 (xs[k] + x)] rfl rfl (cell_one_new _ _ _) (by intro u hu; simp at hu; subst hu; rfl) (by unfold maxLen; omega) (by omega) (by simp; omega) ?_; intro v1 w1 hown1 hgrow1 _)
      have hS2 : w1.ownsRow w.heap.size 3 1 v1 (k + 1) (((xs.take (k + 1)).map (· + x)).map (Value.int .i64)) := by rw [HT.out]; simpa using hown1
      have hb1 := (hb.alloc hsz (Obj.cells #[Value.int .i64 (xs[k] + x)] 3)).grown hgrow1 (by simp; omega) (by intro g hg; exact ((hown.lt g hg).1))
      obtain ⟨A2, c2, rfl, _, _⟩ := own_shape hS2
      have H1 := Lib.hid hS2
      have H2 := Lib.hid hb1
      clear hS2 hown1 hgrow1 hb1 hown hb
      go_wp2
      go_roundw
      case rel => exact ⟨k + 1, A2, c2, by omega, by go_num, rfl, H1.out, H2.out⟩
      case measure => simp [intOf]; omega
    · obtain rfl : k = n := by omega
      have HE := Lib.hid (show k = (xs.map (· + x)).length by rw [List.length_map]; exact HN.out.symm)
      rw [List.take_of_length_le hn1] at hown
      go_wp2
      go_ret
      exact ⟨A1, c1, by rw [← HE.out]; rfl, by rw [← HE.out]; exact (own_caps hown).1, (own_caps hown).2, by rw [← HE.out]; first | exact hown | simpa using hown, hb⟩

set_option maxHeartbeats 4000000 in
theorem sumParts_impl (A : Option Addr) (c : Nat) (p : List Int) (w : World) (h : In w A c p) (hp : permB p = true) :
    Calls Tryz.prog 63 #[.slice A p.length c] w (RetLen w (sumN p p.length)) := by
  obtain ⟨j0, hj, hy0, hy1, hy2⟩ := info_parts infoL
  obtain ⟨h8, hr, _⟩ := permB_true hp
  have hbd : ∀ v ∈ p, 1 ≤ v ∧ v ≤ 8 := fun v hv => by have := hr v hv; omega
  have hcap := h.cap
  have HP := Lib.hid hp
  have hown0 : (w.alloc (.cells #[] 36)).ownsRow w.heap.size 36 1 (.slice (some ⟨w.heap.size, 0, none⟩) 0 0) 0 [] := World.ownsRow_lit w #[] 0 (Nat.le_refl _) (by unfold maxLen; omega) rfl
  have hb0 := (Below.refl w.heap.size w).alloc (Nat.le_refl _) (.cells #[] 36)
  clear hp hr
  go_enter Tryz.func63, Tryz.ntmps63
  go_wp2_with fail
  go_loopw [3, 4, 5, 11] (fun v s t i wr => ∃ (k st : Nat) (A1 : Option Addr) (c1 : Nat) (vs : List Value), k ≤ p.length ∧ st ≤ k ∧ i = .int .i64 k ∧ s = .int .i64 st ∧ t = .int .i64 (pmax p k) ∧ v = .slice A1 (sumN p k) c1 ∧ wr.ownsRow w.heap.size 36 1 (.slice A1 (sumN p k) c1) (sumN p k) vs ∧ Below w.heap.size w wr) (fun _ _ _ i _ => p.length - (intOf i).toNat)
  case atStart => exact ⟨0, 0, _, _, [], Nat.zero_le _, Nat.le_refl _, rfl, rfl, rfl, rfl, hown0, hb0⟩
  case round =>
    clear hown0 hb0
    obtain ⟨k, st, A1, c1, vs, hk, hst, rfl, rfl, rfl, rfl, hown, hb⟩ := hrel
    have hsz := hb.size
    have hpm := pmax_bd hbd k
    have hpm2 := pmax_bd hbd (k + 1)
    have hsn := sumN_le p k
    rcases Nat.lt_or_ge k p.length with hlt | hge
    · obtain ⟨b, off, rfl, hbb, hc⟩ := (h.next hb).rd (by omega)
      have cc := hc k hlt
      have hvk := hbd p[k] (List.getElem_mem hlt)
      have HM := Lib.hid (pmax_succ p k hlt)
      have HS := Lib.hid (sumN_succ p k)
      have HCUT := Lib.hid (((h.next hb).rd.take (k + 1)).cut (k := st) (c := c) (by simp; omega) (by simp; omega))
      have hsl := fun w => run_cut2 (P := Tryz.prog) (t := 36) Tryz.underlying36 sizeI (some ⟨b, off, none⟩) p.length c st (k + 1) (st : Int) ((k : Int) + 1) rfl (by omega) (by omega) (by omega) w
      clear hc
      have HLN := Lib.hid (show ((p.take (k + 1)).drop st).length = k + 1 - st by simp; omega)
      have HVV := Lib.hid (show ∀ v ∈ (p.take (k + 1)).drop st, 1 ≤ v ∧ v ≤ 1048576 from fun v hv => by
        have := hbd v ((List.take_sublist _ _).subset ((List.drop_sublist _ _).subset hv))
        omega)
      by_cases heq : pmax p (k + 1) = (k : Int) + 1
      · have HE := Lib.hid (show sumN p (k + 1) = sumN p k + 1 by rw [HS.out, if_pos heq])
        by_cases hmx : pmax p k < p[k]
        · have HV := Lib.hid (show pmax p (k + 1) = p[k] by rw [HM.out]; omega)
          have dq : (p[k] == (k : Int) + 1) = true := by rw [← HV.out, heq]; simp
          clear heq
          go_wp2_with fail
          (with_reducible refine (raised_any _ _ (k + 1 - st) ((p.take (k + 1)).drop st) (-(st : Int)) wr HLN.out (by omega) HCUT.out HVV.out (by omega)).mono ?_)
          rintro e w2 ⟨A2, c2, rfl, _, _, own2, hb2⟩
          have hown2 := own_below hown hb2
          have hbw := hb.trans (hb2.mono hsz)
          have hwz : w.heap.size ≤ w2.heap.size := hbw.size
          clear own2 hown hb2
          generalize (((p.take (k + 1)).drop st).map (· + -(st : Int))).length = L
          go_wp2_with (at_builtin; refine wpList_append_own _ rfl _ _ 24 rfl (w.heap.size) 36 j0 (.slice none 0 0) 1 24 Tryz.underlying24 hj hy0 hy1 hy2 rfl (by decide) _ _ _ rfl (World.ownsRow.alloc hown2 _) ⟨w2.heap.size, 0, none⟩ 1 1 [Value.slice A2 L c2] rfl rfl (cell_one_at _ _ (by simp)) (by intro u hu; simp at hu; subst hu; rfl) (by unfold maxLen; omega) (by omega) (by simp; omega) ?_; intro v9 w9 hown9 hgrow9 _)
          obtain ⟨A3, c3, rfl, _, _⟩ := own_shape hown9
          have hb3 := (hbw.alloc hwz _).grown hgrow9 (by simp; omega) (fun g hg => (hown2.lt g hg).1)
          have K := Lib.hid (And.intro hown9 hb3)
          clear hown9 hgrow9 hb3 hown2 hbw
          go_wp2_with fail
          go_roundw
          case rel => exact ⟨k + 1, k + 1, A3, c3, _, by omega, Nat.le_refl _, by go_num, by go_num, by rw [HV.out], by rw [HE.out], by rw [HE.out]; exact K.out.1, K.out.2⟩
          case measure => simp [intOf]; omega
        · have HV := Lib.hid (show pmax p (k + 1) = pmax p k by rw [HM.out]; omega)
          have dq : (pmax p k == (k : Int) + 1) = true := by rw [← HV.out, heq]; simp
          clear heq
          go_wp2_with fail
          (with_reducible refine (raised_any _ _ (k + 1 - st) ((p.take (k + 1)).drop st) (-(st : Int)) wr HLN.out (by omega) HCUT.out HVV.out (by omega)).mono ?_)
          rintro e w2 ⟨A2, c2, rfl, _, _, own2, hb2⟩
          have hown2 := own_below hown hb2
          have hbw := hb.trans (hb2.mono hsz)
          have hwz : w.heap.size ≤ w2.heap.size := hbw.size
          clear own2 hown hb2
          generalize (((p.take (k + 1)).drop st).map (· + -(st : Int))).length = L
          go_wp2_with (at_builtin; refine wpList_append_own _ rfl _ _ 24 rfl (w.heap.size) 36 j0 (.slice none 0 0) 1 24 Tryz.underlying24 hj hy0 hy1 hy2 rfl (by decide) _ _ _ rfl (World.ownsRow.alloc hown2 _) ⟨w2.heap.size, 0, none⟩ 1 1 [Value.slice A2 L c2] rfl rfl (cell_one_at _ _ (by simp)) (by intro u hu; simp at hu; subst hu; rfl) (by unfold maxLen; omega) (by omega) (by simp; omega) ?_; intro v9 w9 hown9 hgrow9 _)
          obtain ⟨A3, c3, rfl, _, _⟩ := own_shape hown9
          have hb3 := (hbw.alloc hwz _).grown hgrow9 (by simp; omega) (fun g hg => (hown2.lt g hg).1)
          have K := Lib.hid (And.intro hown9 hb3)
          clear hown9 hgrow9 hb3 hown2 hbw
          go_wp2_with fail
          go_roundw
          case rel => exact ⟨k + 1, k + 1, A3, c3, _, by omega, Nat.le_refl _, by go_num, by go_num, by rw [HV.out], by rw [HE.out], by rw [HE.out]; exact K.out.1, K.out.2⟩
          case measure => simp [intOf]; omega
      · have HE := Lib.hid (show sumN p (k + 1) = sumN p k by rw [HS.out, if_neg heq])
        by_cases hmx : pmax p k < p[k]
        · have HV := Lib.hid (show pmax p (k + 1) = p[k] by rw [HM.out]; omega)
          have dq : (p[k] == (k : Int) + 1) = false := by rw [← HV.out]; simpa using heq
          clear heq
          go_wp2_with fail
          go_roundw
          case rel => exact ⟨k + 1, st, A1, c1, vs, by omega, by omega, by go_num, rfl, by rw [HV.out], by rw [HE.out], by rw [HE.out]; exact hown, hb⟩
          case measure => simp [intOf]; omega
        · have HV := Lib.hid (show pmax p (k + 1) = pmax p k by rw [HM.out]; omega)
          have dq : (pmax p k == (k : Int) + 1) = false := by rw [← HV.out]; simpa using heq
          clear heq
          go_wp2_with fail
          go_roundw
          case rel => exact ⟨k + 1, st, A1, c1, vs, by omega, by omega, by go_num, rfl, by rw [HV.out], by rw [HE.out], by rw [HE.out]; exact hown, hb⟩
          case measure => simp [intOf]; omega
    · obtain rfl : k = p.length := by omega
      go_wp2_with fail
      go_ret
      exact ⟨A1, c1, rfl, hb⟩
theorem l1Max_b (a b m : Int) (w : World) (hm : max a b = m) : Calls Tryz.prog 102 #[.int .i64 a, .int .i64 b] w fun e w' => e = .returned (.int .i64 m) ∧ w = w' := by
  have HM := Lib.hid hm
  clear hm
  by_cases h : b < a
  · have HE := Lib.hid (show m = a by rw [← HM.out]; omega)
    go_enter Tryz.func102, Tryz.ntmps102
    go_wp2
    go_ret
    exact ⟨by rw [HE.out]; rfl, rfl⟩
  · have HE := Lib.hid (show m = b by rw [← HM.out]; omega)
    go_enter Tryz.func102, Tryz.ntmps102
    go_wp2
    go_ret
    exact ⟨by rw [HE.out]; rfl, rfl⟩
def sumG (p : List Int) : Nat := if permB p = true then sumN p p.length else 0
set_option maxHeartbeats 4000000 in
theorem sumParts_spec (A : Option Addr) (c : Nat) (p : List Int) (w : World) (h : In w A c p) :
    Calls Tryz.prog 64 #[.slice A p.length c] w (RetLen w (sumG p)) := by
  obtain ⟨j0, hj, hy0, hy1, hy2⟩ := info_parts infoL
  have hcap := h.cap
  have hb00 := (Below.refl w.heap.size w).alloc (Nat.le_refl _) (.cells #[] 36)
  have hown00 : (w.alloc (.cells #[] 36)).ownsRow w.heap.size 36 1 (.slice (some ⟨w.heap.size, 0, none⟩) 0 0) 0 [] := World.ownsRow_lit w #[] 0 (Nat.le_refl _) (by unfold maxLen; omega) rfl
  by_cases hp : permB p = true
  · obtain ⟨h8, hr, _⟩ := permB_true hp
    have hbd : ∀ v ∈ p, 1 ≤ v ∧ v ≤ 8 := fun v hv => by have := hr v hv; omega
    have HP := Lib.hid hp
    have HG := Lib.hid (show sumG p = sumN p p.length by unfold sumG; rw [if_pos hp])
    clear hp hr
    go_enter Tryz.func64, Tryz.ntmps64
    go_wp2_with fail
    (with_reducible refine (isPerm_sb A c p _ true (h.next hb00) HP.out).mono ?_)
    rintro e w1 ⟨rfl, hd1⟩
    have hb0 := below_dr hb00 hd1
    have hown0 := hd1.own hown00
    clear hb00 hown00
    go_wp2_with fail
    go_loopw [3, 4, 5, 6] (fun v s t i wr => ∃ (k st : Nat) (A1 : Option Addr) (c1 : Nat) (vs : List Value), k ≤ p.length ∧ st ≤ k ∧ i = .int .i64 k ∧ s = .int .i64 st ∧ t = .int .i64 (pmax p k) ∧ v = .slice A1 (sumN p k) c1 ∧ wr.ownsRow w.heap.size 36 1 (.slice A1 (sumN p k) c1) (sumN p k) vs ∧ Below w.heap.size w wr) (fun _ _ _ i _ => p.length - (intOf i).toNat)
    case atStart => exact ⟨0, 0, _, _, [], Nat.zero_le _, Nat.le_refl _, rfl, rfl, rfl, rfl, hown0, hb0⟩
    case round =>
      clear hown0 hb0
      obtain ⟨k, st, A1, c1, vs, hk, hst, rfl, rfl, rfl, rfl, hown, hb⟩ := hrel
      have hsz := hb.size
      have hpm := pmax_bd hbd k
      have hpm2 := pmax_bd hbd (k + 1)
      have hsn := sumN_le p k
      rcases Nat.lt_or_ge k p.length with hlt | hge
      · obtain ⟨b, off, rfl, hbb, hc⟩ := (h.next hb).rd (by omega)
        have cc := hc k hlt
        have hvk := hbd p[k] (List.getElem_mem hlt)
        have HM := Lib.hid (pmax_succ p k hlt)
        have HS := Lib.hid (sumN_succ p k)
        have HCUT := Lib.hid (((h.next hb).rd.take (k + 1)).cut (k := st) (c := c) (by simp; omega) (by simp; omega))
        have hsl := fun w => run_cut2 (P := Tryz.prog) (t := 36) Tryz.underlying36 sizeI (some ⟨b, off, none⟩) p.length c st (k + 1) (st : Int) ((k : Int) + 1) rfl (by omega) (by omega) (by omega) w
        clear hc
        have HLN := Lib.hid (show ((p.take (k + 1)).drop st).length = k + 1 - st by simp; omega)
        by_cases heq : pmax p (k + 1) = (k : Int) + 1
        · have HE := Lib.hid (show sumN p (k + 1) = sumN p k + 1 by rw [HS.out, if_pos heq])
          have dq : (pmax p (k + 1) == (k : Int) + 1) = true := by rw [heq]; simp
          clear heq
          go_wp2_with fail
          (with_reducible refine (l1Max_b (pmax p k) p[k] (pmax p (k + 1)) wr HM.out.symm).mono ?_)
          rintro e w' ⟨rfl, rfl⟩
          go_wp2_with fail
          (with_reducible refine (pattern_spec _ _ (k + 1 - st) ((p.take (k + 1)).drop st) wr HLN.out (by omega) HCUT.out).mono ?_)
          rintro e w2 ⟨A2, c2, rfl, _, _, own2, hb2⟩
          have hown2 := own_below hown hb2
          have hbw := hb.trans (hb2.mono hsz)
          have hwz : w.heap.size ≤ w2.heap.size := hbw.size
          clear own2 hown hb2
          generalize (patL ((p.take (k + 1)).drop st)).length = L
          go_wp2_with (at_builtin; refine wpList_append_own _ rfl _ _ 24 rfl (w.heap.size) 36 j0 (.slice none 0 0) 1 24 Tryz.underlying24 hj hy0 hy1 hy2 rfl (by decide) _ _ _ rfl (World.ownsRow.alloc hown2 _) ⟨w2.heap.size, 0, none⟩ 1 1 [Value.slice A2 L c2] rfl rfl (cell_one_at _ _ (by simp)) (by intro u hu; simp at hu; subst hu; rfl) (by unfold maxLen; omega) (by omega) (by simp; omega) ?_; intro v9 w9 hown9 hgrow9 _)
          obtain ⟨A3, c3, rfl, _, _⟩ := own_shape hown9
          have hb3 := (hbw.alloc hwz _).grown hgrow9 (by simp; omega) (fun g hg => (hown2.lt g hg).1)
          have K := Lib.hid (And.intro hown9 hb3)
          clear hown9 hgrow9 hb3 hown2 hbw
          go_wp2_with fail
          go_roundw
          case rel => exact ⟨k + 1, k + 1, A3, c3, _, by omega, Nat.le_refl _, by go_num, by go_num, rfl, by rw [HE.out], by rw [HE.out]; exact K.out.1, K.out.2⟩
          case measure => simp [intOf]; omega
        · have HE := Lib.hid (show sumN p (k + 1) = sumN p k by rw [HS.out, if_neg heq])
          have dq : (pmax p (k + 1) == (k : Int) + 1) = false := by simpa using heq
          clear heq
          go_wp2_with fail
          (with_reducible refine (l1Max_b (pmax p k) p[k] (pmax p (k + 1)) wr HM.out.symm).mono ?_)
          rintro e w' ⟨rfl, rfl⟩
          go_wp2_with fail
          go_roundw
          case rel => exact ⟨k + 1, st, A1, c1, vs, by omega, by omega, by go_num, rfl, rfl, by rw [HE.out], by rw [HE.out]; exact hown, hb⟩
          case measure => simp [intOf]; omega
      · obtain rfl : k = p.length := by omega
        go_wp2_with fail
        go_ret
        rw [HG.out]
        exact ⟨A1, c1, rfl, hb⟩
  · have hpf : permB p = false := by simpa using hp
    have HP := Lib.hid hpf
    have HG := Lib.hid (show sumG p = 0 by unfold sumG; rw [if_neg hp])
    clear hp hpf
    go_enter Tryz.func64, Tryz.ntmps64
    go_wp2_with fail
    (with_reducible refine (isPerm_sb A c p _ false (h.next hb00) HP.out).mono ?_)
    rintro e w1 ⟨rfl, hd1⟩
    go_wp2_with fail
    go_ret
    rw [HG.out]
    exact ⟨_, _, rfl, below_dr hb00 hd1⟩

theorem call_sc (args : Array Value) (w : World) : (callFunc 62 args).run Tryz.prog w = .ok (.enter 62 args) w := by kernel_rfl
set_option maxHeartbeats 800000 in
theorem sc_cl (A : Option Addr) (c : Nat) (p : List Int) (w : World) (h : In w A c p) (hp : permB p = true) :
    Calls Tryz.prog 62 #[.slice A p.length c] w (Rb w (.bool (decide (1 < sumN p p.length)))) := by
  have HR := Lib.hid (sumParts_impl A c p w h hp)
  have hsn := sumN_le p p.length
  have h8 := (permB_true hp).1
  clear hp
  go_enter Tryz.func62, Tryz.ntmps62
  go_wp2_with fail
  (with_reducible refine HR.out.mono ?_)
  rintro e w1 ⟨A1, c1, rfl, hb1⟩
  go_wp2_with fail
  go_ret
  exact ⟨ret_bool (by rw [decide_eq_decide]; omega), hb1⟩
set_option maxHeartbeats 1000000 in
theorem sumClosed_impl (A : Option Addr) (c : Nat) (rs : List Row) (w : World) (h : InL w A c rs) :
    Calls Tryz.prog 22 #[.slice A rs.length c] w (Rb w (.bool (scG (rs.map Row.xs)))) := by
  have hlen := h.len
  by_cases hB : basisB (rs.map Row.xs) = true
  · have H1 := Lib.hid hB
    have hperm := basis_perm hB
    have HP := Lib.hid (show ∀ r ∈ rs, permB r.xs = true from fun r hr => hperm _ (List.mem_map.2 ⟨r, hr, rfl⟩))
    have HG := Lib.hid (show scG (rs.map Row.xs) = !(rs.any fun r : Row => decide (1 < sumN r.xs r.xs.length)) by
      unfold scG; rw [hB, any_rows rs (fun p => decide (1 < sumN p p.length))]; rfl)
    clear hB hperm
    go_enter Tryz.func22, Tryz.ntmps22
    go_wp2_with fail
    (with_reducible refine (basis_ib A c rs w true h H1.out).mono ?_)
    rintro e w1 ⟨rfl, hb1⟩
    have h1 := h.next hb1
    go_wp2_with fail
    refine (containsFuncL0 A c rs 62 (fun p => decide (1 < sumN p p.length)) w1 (by omega) h1.read (fun args w' => call_sc args w') (fun w' k hk hb => sc_cl _ _ _ _ ((h1.next hb).row (List.getElem_mem hk)) (HP.out _ (List.getElem_mem hk))) _ rfl).mono ?_
    rintro e w2 ⟨rfl, hb2⟩
    go_wp2_with fail
    go_ret
    exact ⟨ret_bool (by rw [HG.out]), hb1.trans (hb2.mono hb1.size)⟩
  · have hBf : basisB (rs.map Row.xs) = false := by simpa using hB
    have H1 := Lib.hid hBf
    have HG := Lib.hid (show scG (rs.map Row.xs) = false by unfold scG; rw [hBf]; rfl)
    clear hB hBf
    go_enter Tryz.func22, Tryz.ntmps22
    go_wp2_with fail
    (with_reducible refine (basis_ib A c rs w false h H1.out).mono ?_)
    rintro e w1 ⟨rfl, hb1⟩
    go_wp2_with fail
    go_ret
    exact ⟨ret_bool (by rw [HG.out]), hb1⟩
theorem sc_bad {X : List (List Int)} {p : List Int} (hp : p ∈ X) (h : decide (1 < sumG p) = true) : scG X = false := by
  unfold scG
  rcases hB : basisB X with _ | _
  · rfl
  have h1 := basis_perm hB p hp
  unfold sumG at h
  rw [if_pos h1] at h
  have : (X.any fun p => decide (1 < sumN p p.length)) = true := List.any_eq_true.2 ⟨p, hp, h⟩
  rw [this]; rfl
theorem sc_good {X : List (List Int)} (h : X.any (fun p => decide (1 < sumG p)) = false) : scG X = basisB X := by
  unfold scG
  rcases hB : basisB X with _ | _
  · rfl
  have : (X.any fun p => decide (1 < sumN p p.length)) = false := by
    rw [List.any_eq_false] at h ⊢
    intro p hp
    have := h p hp
    unfold sumG at this
    rwa [if_pos (basis_perm hB p hp)] at this
  rw [this]; rfl
theorem sumG_le (p : List Int) : sumG p ≤ 8 := by
  unfold sumG
  split
  · rename_i h; have := sumN_le p p.length; have := (permB_true h).1; omega
  · omega
set_option maxHeartbeats 1000000 in
theorem sumClosed_spec (A : Option Addr) (c : Nat) (rs : List Row) (w : World) (h : InL w A c rs) :
    Calls Tryz.prog 23 #[.slice A rs.length c] w (Rb w (.bool (scG (rs.map Row.xs)))) := by
  have hlen := h.len
  go_enter Tryz.func23, Tryz.ntmps23
  go_wp2_with fail
  go_loopw [3] (fun i wr => ∃ k : Nat, k ≤ rs.length ∧ i = .int .i64 k ∧ Hid ((rs.take k).any (fun r : Row => decide (1 < sumG r.xs)) = false) ∧ Below w.heap.size w wr) (fun i _ => rs.length - (intOf i).toNat)
  case atStart => exact ⟨0, Nat.zero_le _, rfl, Lib.hid rfl, Below.refl _ _⟩
  case round =>
    obtain ⟨k, hk, rfl, HN, hb⟩ := hrel
    rcases Nat.lt_or_ge k rs.length with hlt | hge
    · obtain ⟨b, off, rfl, _, hc⟩ := (h.next hb).read.at (by omega)
      have cc := hc k hlt
      have hin := (h.next hb).row (List.getElem_mem hlt)
      have HMEM := Lib.hid (show rs[k].xs ∈ rs.map Row.xs from List.mem_map.2 ⟨rs[k], List.getElem_mem hlt, rfl⟩)
      have HR := Lib.hid (sumParts_spec rs[k].A rs[k].c rs[k].xs wr hin)
      have hs8 := sumG_le rs[k].xs
      clear hc
      go_wp2_with fail
      (with_reducible refine HR.out.mono ?_)
      rintro e w1 ⟨A1, c1, rfl, hb1⟩
      have hb1 := hb.trans (hb1.mono hb.size)
      by_cases hs : 1 < sumG rs[k].xs
      · have HF := Lib.hid (sc_bad HMEM.out (decide_eq_true hs))
        have d1 : decide ((sumG rs[k].xs : Int) > 1) = true := decide_eq_true (by omega)
        go_wp2_with fail
        go_ret
        exact ⟨ret_bool HF.out.symm, hb1⟩
      · have HT := Lib.hid (show (rs.take (k + 1)).any (fun r : Row => decide (1 < sumG r.xs)) = false from any_take_false HN.out hlt (decide_eq_false hs))
        have d1 : decide ((sumG rs[k].xs : Int) > 1) = false := decide_eq_false (by omega)
        have d2 : sumG rs[k].xs ≤ 1 := by omega
        go_wp2_with fail
        go_roundw
        case rel => exact ⟨k + 1, by omega, by go_num, HT, hb1⟩
        case measure => simp [intOf]; omega
    · have HG := Lib.hid (sc_good (X := rs.map Row.xs) (by have := HN.out; rw [List.take_of_length_le hge, any_rows rs (fun p => decide (1 < sumG p))] at this; exact this))
      go_wp2_with fail
      (with_reducible refine (basis_sb A c rs wr _ (h.next hb) rfl).mono ?_)
      rintro e w1 ⟨rfl, hb1⟩
      go_wp2_with fail
      go_ret
      exact ⟨ret_bool (by rw [HG.out]), hb.trans (hb1.mono hb.size)⟩
end Go.Proofs.YtodloeonlaljpaaGreat

/- IsFinite, program and reference. -/
namespace Go.Proofs.YtodloeonlaljpaaGreat
set_option maxRecDepth 100000
open Go Go.RowKit

def riseB (p : List Int) : Bool := decide (p = nums p.length)
def fallB (p : List Int) : Bool := decide (p = (nums p.length).reverse)
theorem fall_rev (p : List Int) : riseB p.reverse = fallB p := by
  unfold riseB fallB
  rw [decide_eq_decide, List.length_reverse]
  constructor
  · intro h; rw [← h, List.reverse_reverse]
  · intro h; conv => lhs; rw [h]
    rw [List.reverse_reverse]
def finG (X : List (List Int)) : Bool := basisB X && X.any riseB && X.any fallB

theorem call_ri (args : Array Value) (w : World) : (callFunc 59 args).run Tryz.prog w = .ok (.enter 59 args) w := by kernel_rfl
theorem call_fa (args : Array Value) (w : World) : (callFunc 60 args).run Tryz.prog w = .ok (.enter 60 args) w := by kernel_rfl
set_option maxHeartbeats 800000 in
theorem rising_any (A : Option Addr) (c : Nat) (p : List Int) (w : World) (h : In w A c p) (hp : permB p = true) :
    Calls Tryz.prog 59 #[.slice A p.length c] w (Rb w (.bool (riseB p))) := by
  have HS := Lib.hid (sort_perm hp)
  have hl := h.len
  have hx := h.rd
  clear hp
  go_enter Tryz.func59, Tryz.ntmps59
  go_wp2_with fail
  (with_reducible refine (isSorted_b A c p.length p w _ rfl hl hx rfl).mono ?_)
  rintro e w1 ⟨rfl, hd⟩
  go_wp2_with fail
  go_ret
  exact ⟨ret_bool (by rw [HS.out]; rfl), below_dr (Below.refl _ _) hd⟩
set_option maxHeartbeats 800000 in
theorem falling_any (A : Option Addr) (c : Nat) (p : List Int) (w : World) (h : In w A c p) :
    Calls Tryz.prog 60 #[.slice A p.length c] w (Rb w (.bool (fallB p))) := by
  have hl := h.len
  go_enter Tryz.func60, Tryz.ntmps60
  go_wp2_with fail
  (with_reducible refine (identity_any p.length w hl).mono ?_)
  rintro e w1 ⟨A1, c1, rfl, q1, q2, own1, hb1⟩
  have HL := Lib.hid (idL_length p.length)
  have hin1 : In w1 A1 c1 (idL p.length) := ⟨by rw [HL.out]; exact hl, q1, Rd.of_own own1⟩
  go_wp2_with fail
  (with_reducible refine (reverse_impl A1 c1 (idL p.length) w1 hin1).mono ?_)
  rintro e w2 ⟨A2, c2, rfl, q3, q4, own2, hb2⟩
  have hb := hb1.trans (hb2.mono hb1.size)
  have hr1 := (h.next hb).rd
  have hr2 := Rd.of_own own2
  have HR := Lib.hid (show decide (p = (idL p.length).reverse) = fallB p from rfl)
  have hl2 : p.length ≤ 4611686018427387904 := by omega
  clear own1 own2 hin1
  go_wp2_with fail
  (with_reducible refine (equal_b A A2 c c2 p.length (idL p.length).length p (idL p.length).reverse w2 _ rfl List.length_reverse hl2 hr1 hr2 HR.out).mono ?_)
  rintro e w3 ⟨rfl, hd3⟩
  go_wp2_with fail
  go_ret
  exact ⟨rfl, below_dr hb hd3⟩
set_option maxHeartbeats 1000000 in
theorem finite_impl (A : Option Addr) (c : Nat) (rs : List Row) (w : World) (h : InL w A c rs) :
    Calls Tryz.prog 20 #[.slice A rs.length c] w (Rb w (.bool (finG (rs.map Row.xs)))) := by
  have hlen := h.len
  by_cases hB : basisB (rs.map Row.xs) = true
  · have H1 := Lib.hid hB
    have hperm := basis_perm hB
    have HP := Lib.hid (show ∀ r ∈ rs, permB r.xs = true from fun r hr => hperm _ (List.mem_map.2 ⟨r, hr, rfl⟩))
    have HG := Lib.hid (show finG (rs.map Row.xs) = ((rs.any fun r : Row => riseB r.xs) && (rs.any fun r : Row => fallB r.xs)) by
      unfold finG; rw [hB, any_rows rs riseB, any_rows rs fallB]; rfl)
    clear hB hperm
    go_enter Tryz.func20, Tryz.ntmps20
    go_wp2_with fail
    (with_reducible refine (basis_ib A c rs w true h H1.out).mono ?_)
    rintro e w1 ⟨rfl, hb1⟩
    have h1 := h.next hb1
    go_wp2_with fail
    by_cases hu : (rs.any fun r : Row => riseB r.xs) = true
    · have HU := Lib.hid hu
      refine (containsFuncL0 A c rs 59 riseB w1 (by omega) h1.read (fun args w' => call_ri args w') (fun w' k hk hb => rising_any _ _ _ _ ((h1.next hb).row (List.getElem_mem hk)) (HP.out _ (List.getElem_mem hk))) true hu).mono ?_
      rintro e w2 ⟨rfl, hb2⟩
      clear hu
      have h2 := h1.next hb2
      have hb12 := hb1.trans (hb2.mono hb1.size)
      go_wp2_with fail
      refine (containsFuncL0 A c rs 60 fallB w2 (by omega) h2.read (fun args w' => call_fa args w') (fun w' k hk hb => falling_any _ _ _ _ ((h2.next hb).row (List.getElem_mem hk))) _ rfl).mono ?_
      rintro e w3 ⟨rfl, hb3⟩
      go_wp2_with fail
      go_ret
      exact ⟨ret_bool (by rw [HG.out, HU.out, Bool.true_and]), hb12.trans (hb3.mono hb12.size)⟩
    · have huf : (rs.any fun r : Row => riseB r.xs) = false := by simpa using hu
      have HU := Lib.hid huf
      refine (containsFuncL0 A c rs 59 riseB w1 (by omega) h1.read (fun args w' => call_ri args w') (fun w' k hk hb => rising_any _ _ _ _ ((h1.next hb).row (List.getElem_mem hk)) (HP.out _ (List.getElem_mem hk))) false huf).mono ?_
      rintro e w2 ⟨rfl, hb2⟩
      clear hu huf
      go_wp2_with fail
      go_ret
      exact ⟨ret_bool (by rw [HG.out, HU.out, Bool.false_and]), hb1.trans (hb2.mono hb1.size)⟩
  · have hBf : basisB (rs.map Row.xs) = false := by simpa using hB
    have H1 := Lib.hid hBf
    have HG := Lib.hid (show finG (rs.map Row.xs) = false by unfold finG; rw [hBf]; rfl)
    clear hB hBf
    go_enter Tryz.func20, Tryz.ntmps20
    go_wp2_with fail
    (with_reducible refine (basis_ib A c rs w false h H1.out).mono ?_)
    rintro e w1 ⟨rfl, hb1⟩
    go_wp2_with fail
    go_ret
    exact ⟨ret_bool (by rw [HG.out]), hb1⟩
set_option maxHeartbeats 800000 in
theorem straight_b (A : Option Addr) (c n : Nat) (p : List Int) (w : World) (b : Bool) (hn : p.length = n) (hl : n ≤ 8) (hx : Rd (Value.int .i64) w w.heap.size A p) (hb : riseB p = b) :
    Calls Tryz.prog 61 #[.slice A n c] w (Rb w (.bool b)) := by
  subst hn
  have HB := Lib.hid hb
  clear hb
  go_enter Tryz.func61, Tryz.ntmps61
  go_wp2_with fail
  (with_reducible refine (identityPerm_spec p.length w hl).mono ?_)
  rintro e w1 ⟨A1, c1, rfl, q1, q2, own1, hb1⟩
  have hr1 := hx.next hb1
  have hr2 := Rd.of_own own1
  have hl2 : p.length ≤ 4611686018427387904 := by omega
  have HR := Lib.hid (show decide (p = nums p.length) = b from HB.out)
  clear own1
  go_wp2_with fail
  (with_reducible refine (l2Same_b A A1 c c1 p.length (nums p.length).length p (nums p.length) w1 b rfl rfl hl2 hr1 hr2 HR.out).mono ?_)
  rintro e w2 ⟨rfl, hd2⟩
  go_wp2_with fail
  go_ret
  exact ⟨rfl, below_dr hb1 hd2⟩
set_option maxHeartbeats 2000000 in
theorem finite_spec (A : Option Addr) (c : Nat) (rs : List Row) (w : World) (h : InL w A c rs) :
    Calls Tryz.prog 21 #[.slice A rs.length c] w (Rb w (.bool (finG (rs.map Row.xs)))) := by
  have hlen := h.len
  by_cases hB : basisB (rs.map Row.xs) = true
  · have H1 := Lib.hid hB
    have hr8 := rows_8 (basis_perm hB)
    have HG := Lib.hid (show finG (rs.map Row.xs) = ((rs.any fun r : Row => riseB r.xs) && (rs.any fun r : Row => fallB r.xs)) by
      unfold finG; rw [hB, any_rows rs riseB, any_rows rs fallB]; rfl)
    clear hB
    go_enter Tryz.func21, Tryz.ntmps21
    go_wp2_with fail
    go_loopw [3, 4, 5] (fun u d i wr => ∃ k : Nat, k ≤ rs.length ∧ i = .int .i64 k ∧ u = .bool ((rs.take k).any fun r : Row => riseB r.xs) ∧ d = .bool ((rs.take k).any fun r : Row => fallB r.xs) ∧ Below w.heap.size w wr) (fun _ _ i _ => rs.length - (intOf i).toNat)
    case atStart => exact ⟨0, Nat.zero_le _, rfl, rfl, rfl, Below.refl _ _⟩
    case round =>
      obtain ⟨k, hk, rfl, rfl, rfl, hb⟩ := hrel
      by_cases hlt : k < rs.length
      · have HT1 := Lib.hid (show (rs.take (k + 1)).any (fun r : Row => riseB r.xs) = ((rs.take k).any (fun r : Row => riseB r.xs) || riseB rs[k].xs) by rw [List.take_succ_eq_append_getElem hlt, List.any_append]; simp)
        have HT2 := Lib.hid (show (rs.take (k + 1)).any (fun r : Row => fallB r.xs) = ((rs.take k).any (fun r : Row => fallB r.xs) || fallB rs[k].xs) by rw [List.take_succ_eq_append_getElem hlt, List.any_append]; simp)
        have hl8 := hr8 _ (List.getElem_mem hlt)
        go_wp2_with fail
        (with_reducible refine (basis_sb A c rs wr true (h.next hb) H1.out).mono ?_)
        rintro e w1 ⟨rfl, hb1⟩
        have hb1 := hb.trans (hb1.mono hb.size)
        obtain ⟨b, off, rfl, _, hc⟩ := (h.next hb1).read.at (by omega)
        have cc := hc k hlt
        have hin := (h.next hb1).row (List.getElem_mem hlt)
        clear hc
        rcases hU : (rs.take k).any (fun r : Row => riseB r.xs) with _ | _
        case' false =>
          have HV := Lib.hid (show (rs.take (k + 1)).any (fun r : Row => riseB r.xs) = riseB rs[k].xs by rw [HT1.out, hU, Bool.false_or])
          clear hU
          go_wp2_with fail
          (with_reducible refine (straight_b rs[k].A rs[k].c rs[k].xs.length rs[k].xs w1 _ rfl hl8 hin.rd rfl).mono ?_)
          rintro e w2 ⟨rfl, hb2⟩
          have hb2 := hb1.trans (hb2.mono hb1.size)
        case' true =>
          have HV := Lib.hid (show (rs.take (k + 1)).any (fun r : Row => riseB r.xs) = true by rw [HT1.out, hU, Bool.true_or])
          clear hU
          obtain ⟨w2, hw2⟩ : ∃ w2, w2 = w1 := ⟨_, rfl⟩
          subst hw2
          have hb2 := hb1
        all_goals
          rcases hD : (rs.take k).any (fun r : Row => fallB r.xs) with _ | _
          case' false =>
            have HW := Lib.hid (show (rs.take (k + 1)).any (fun r : Row => fallB r.xs) = fallB rs[k].xs by rw [HT2.out, hD, Bool.false_or])
            clear hD
            have hin2 := (h.next hb2).row (List.getElem_mem hlt)
            have cc2 : w2.cell? ⟨b, off + k, none⟩ = some (Value.slice rs[k].A rs[k].xs.length rs[k].c) := (h.next hb2).read.cellAt k hlt
            go_wp2_with fail
            all_goals
              (with_reducible refine (l3Reverse_any rs[k].A rs[k].c rs[k].xs.length rs[k].xs w2 rfl (by omega) hin2.rd).mono ?_)
              rintro e w3 ⟨A3, c3, rfl, _, _, own3, hb3⟩
              have hb3 := hb2.trans (hb3.mono hb2.size)
              have hr3 := Rd.of_own own3
              have HR := Lib.hid (fall_rev rs[k].xs)
              clear own3
              go_wp2_with fail
              (with_reducible refine (straight_b A3 c3 rs[k].xs.length rs[k].xs.reverse w3 (fallB rs[k].xs) List.length_reverse hl8 hr3 HR.out).mono ?_)
              rintro e w4 ⟨rfl, hb4⟩
              have hb4 := hb3.trans (hb4.mono hb3.size)
              go_wp2_with fail
              go_roundw
              case rel => exact ⟨k + 1, by omega, by go_num, by rw [HV.out], by rw [HW.out], hb4⟩
              case measure => simp [intOf]; omega
          case' true =>
            have HW := Lib.hid (show (rs.take (k + 1)).any (fun r : Row => fallB r.xs) = true by rw [HT2.out, hD, Bool.true_or])
            clear hD
            go_wp2_with fail
            go_roundw
            case rel => exact ⟨k + 1, by omega, by go_num, by rw [HV.out], by rw [HW.out], hb2⟩
            case measure => simp [intOf]; omega
      · obtain rfl : k = rs.length := by omega
        have HE := Lib.hid (List.take_length (l := rs))
        rw [HE.out]
        rcases hU : rs.any (fun r : Row => riseB r.xs) with _ | _
        · have HU := Lib.hid hU
          clear hU
          go_wp2_with fail
          go_ret
          exact ⟨ret_bool (by rw [HG.out, HU.out, Bool.false_and]), hb⟩
        · have HU := Lib.hid hU
          clear hU
          go_wp2_with fail
          go_ret
          exact ⟨ret_bool (by rw [HG.out, HU.out, Bool.true_and]), hb⟩
  · have hBf : basisB (rs.map Row.xs) = false := by simpa using hB
    have H1 := Lib.hid hBf
    have HG := Lib.hid (show finG (rs.map Row.xs) = false by unfold finG; rw [hBf]; rfl)
    clear hB hBf
    go_enter Tryz.func21, Tryz.ntmps21
    go_wp2_with fail
    go_loopw [3, 4, 5] (fun u d i wr => i = .int .i64 0 ∧ u = .bool false ∧ d = .bool false ∧ Below w.heap.size w wr) (fun _ _ _ _ => 0)
    case atStart => exact ⟨rfl, rfl, rfl, Below.refl _ _⟩
    case round =>
      obtain ⟨rfl, rfl, rfl, hb⟩ := hrel
      rcases Nat.eq_zero_or_pos rs.length with h0 | h0
      · have d0 : ¬ (0 < rs.length) := by omega
        have d1 : rs.length ≤ 0 := by omega
        clear h0
        go_wp2_with fail
        go_ret
        exact ⟨ret_bool (by rw [HG.out]), hb⟩
      · go_wp2_with fail
        (with_reducible refine (basis_sb A c rs wr false (h.next hb) H1.out).mono ?_)
        rintro e w1 ⟨rfl, hb1⟩
        go_wp2_with fail
        go_ret
        exact ⟨ret_bool (by rw [HG.out]), hb.trans (hb1.mono hb.size)⟩
end Go.Proofs.YtodloeonlaljpaaGreat
