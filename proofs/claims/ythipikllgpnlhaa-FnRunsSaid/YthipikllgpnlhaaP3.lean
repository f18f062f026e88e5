/- Contracts of the reference's statistics. -/
import Derived.Test.YthipikllgpnlhaaP2b
namespace Go.Proofs.Ythipikllgpnlhaa
set_option maxRecDepth 100000
open Go Go.RowKit

theorem l1Bit_any (b : Bool) (w : World) : Calls Try.prog 91 #[.bool b] w fun e w' => e = .returned (.int .i64 (if b = true then 1 else 0)) ∧ w = w' := by
  cases b
  · go_enter Try.func91, Try.ntmps91
    go_wp2
    go_ret
    exact ⟨rfl, rfl⟩
  · go_enter Try.func91, Try.ntmps91
    go_wp2
    go_ret
    exact ⟨rfl, rfl⟩

set_option maxHeartbeats 800000 in
theorem fixed_spec (A : Option Addr) (c : Nat) (xs : List Int) (w : World) (h : In w A c xs) :
    Calls Try.prog 40 #[.slice A xs.length c] w (Rb w (.int .i64 (countG xs (fixH xs)))) := by
  by_cases hp : permB xs = true
  · have HG := Lib.hid (show countG xs (fixH xs) = ((placesL (fixH xs) xs.length).length : Int) by rw [countG, if_pos hp])
    have h8 := (permB_true hp).1
    go_enter Try.func40, Try.ntmps40
    go_wp2_with fail
    refine (isPerm_spec _ _ _ _ h).mono ?_
    rintro e w1 ⟨rfl, hd⟩
    rw [hp]
    clear hp
    have hx := (h.dr hd).rd
    go_wp2_with fail
    go_loop [3, 4] (fun n i => ∃ k : Nat, k ≤ xs.length ∧ i = .int .i64 k ∧ n = .int .i64 ((placesL (fixH xs) k).length : Int)) (fun _ i => xs.length - (intOf i).toNat)
    case atStart => exact ⟨0, Nat.zero_le _, rfl, rfl⟩
    case round =>
      obtain ⟨k, hk, rfl, rfl⟩ := hrel
      have hpl := placesL_length (fixH xs) k
      rcases Nat.lt_or_ge k xs.length with hlt | hge
      · obtain ⟨b, off, rfl, _, hc⟩ := hx (by omega)
        have ck := hc k hlt
        clear hc
        by_cases hH : xs[k] = (k : Int) + 1
        · have ht : (xs[k] == (k : Int) + 1) = true := by simp [hH]; try omega
          have HS := Lib.hid (show placesL (fixH xs) (k + 1) = placesL (fixH xs) k ++ [(k : Int) + 1] by rw [placesL_succ, if_pos (by simpa [fixH, hlt] using hH)])
          clear hH
          go_wp2_with (go_at_call 91; refine (l1Bit_any _ _).mono ?_; rintro e w' ⟨rfl, rfl⟩)
          go_round
          case rel => exact ⟨k + 1, by omega, by go_num, by rw [HS.out, List.length_append, List.length_singleton]; go_num⟩
          case measure => simp [intOf]; omega
        · have ht : (xs[k] == (k : Int) + 1) = false := by simp [hH]; try omega
          have HS := Lib.hid (show placesL (fixH xs) (k + 1) = placesL (fixH xs) k by rw [placesL_succ, if_neg (by simpa [fixH, hlt] using hH)])
          clear hH
          go_wp2_with (go_at_call 91; refine (l1Bit_any _ _).mono ?_; rintro e w' ⟨rfl, rfl⟩)
          go_round
          case rel => exact ⟨k + 1, by omega, by go_num, by rw [HS.out] <;> go_num⟩
          case measure => simp [intOf]; omega
      · obtain rfl : k = xs.length := by omega
        go_wp2
        go_ret
        exact ⟨ret_int HG.out.symm, below_dr (Below.refl _ _) hd⟩
  · have hpf : permB xs = false := by simpa using hp
    have HG := Lib.hid (show countG xs (fixH xs) = -1 by rw [countG, if_neg hp])
    go_enter Try.func40, Try.ntmps40
    go_wp2_with fail
    refine (isPerm_spec _ _ _ _ h).mono ?_
    rintro e w1 ⟨rfl, hd⟩
    rw [hpf]
    clear hp hpf
    go_wp2_with fail
    go_ret
    exact ⟨ret_int HG.out.symm, below_dr (Below.refl _ _) hd⟩

set_option maxHeartbeats 800000 in
theorem rises_spec (A : Option Addr) (c : Nat) (xs : List Int) (w : World) (h : In w A c xs) :
    Calls Try.prog 42 #[.slice A xs.length c] w (Rb w (.int .i64 (countG xs (riseH xs)))) := by
  by_cases hp : permB xs = true
  · have HG := Lib.hid (show countG xs (riseH xs) = ((placesL (riseH xs) xs.length).length : Int) by rw [countG, if_pos hp])
    have h8 := (permB_true hp).1
    go_enter Try.func42, Try.ntmps42
    go_wp2_with fail
    refine (isPerm_spec _ _ _ _ h).mono ?_
    rintro e w1 ⟨rfl, hd⟩
    rw [hp]
    clear hp
    have hx := (h.dr hd).rd
    go_wp2_with fail
    go_loop [3, 4] (fun n i => ∃ k : Nat, k ≤ xs.length ∧ i = .int .i64 k ∧ n = .int .i64 ((placesL (riseH xs) k).length : Int)) (fun _ i => xs.length - (intOf i).toNat)
    case atStart => exact ⟨0, Nat.zero_le _, rfl, rfl⟩
    case round =>
      obtain ⟨k, hk, rfl, rfl⟩ := hrel
      have hpl := placesL_length (riseH xs) k
      rcases Nat.lt_or_ge k xs.length with hlt | hge
      · obtain ⟨b, off, rfl, _, hc⟩ := hx (by omega)
        have ck := hc k hlt
        clear hc
        by_cases hH : xs[k] > (k : Int) + 1
        · have ht : decide ((k : Int) + 1 < xs[k]) = true := by simp [hH]; try omega
          have HS := Lib.hid (show placesL (riseH xs) (k + 1) = placesL (riseH xs) k ++ [(k : Int) + 1] by rw [placesL_succ, if_pos (by simpa [riseH, hlt] using hH)])
          clear hH
          go_wp2_with (go_at_call 91; refine (l1Bit_any _ _).mono ?_; rintro e w' ⟨rfl, rfl⟩)
          go_round
          case rel => exact ⟨k + 1, by omega, by go_num, by rw [HS.out, List.length_append, List.length_singleton]; go_num⟩
          case measure => simp [intOf]; omega
        · have ht : decide ((k : Int) + 1 < xs[k]) = false := by simp [hH]; try omega
          have HS := Lib.hid (show placesL (riseH xs) (k + 1) = placesL (riseH xs) k by rw [placesL_succ, if_neg (by simpa [riseH, hlt] using hH)])
          clear hH
          go_wp2_with (go_at_call 91; refine (l1Bit_any _ _).mono ?_; rintro e w' ⟨rfl, rfl⟩)
          go_round
          case rel => exact ⟨k + 1, by omega, by go_num, by rw [HS.out] <;> go_num⟩
          case measure => simp [intOf]; omega
      · obtain rfl : k = xs.length := by omega
        go_wp2
        go_ret
        exact ⟨ret_int HG.out.symm, below_dr (Below.refl _ _) hd⟩
  · have hpf : permB xs = false := by simpa using hp
    have HG := Lib.hid (show countG xs (riseH xs) = -1 by rw [countG, if_neg hp])
    go_enter Try.func42, Try.ntmps42
    go_wp2_with fail
    refine (isPerm_spec _ _ _ _ h).mono ?_
    rintro e w1 ⟨rfl, hd⟩
    rw [hpf]
    clear hp hpf
    go_wp2_with fail
    go_ret
    exact ⟨ret_int HG.out.symm, below_dr (Below.refl _ _) hd⟩

set_option maxHeartbeats 1000000 in
theorem descents_spec (A : Option Addr) (c : Nat) (xs : List Int) (w : World) (h : In w A c xs) :
    Calls Try.prog 34 #[.slice A xs.length c] w (Ret (Value.int .i64) 3 w (listG xs (descH xs))) := by
  obtain ⟨i0, hi, hz0, hz1, hz2⟩ := info_parts infoI
  by_cases hp : permB xs = true
  · have HG := Lib.hid (show listG xs (descH xs) = placesL (descH xs) xs.length by rw [listG, if_pos hp])
    have HP := Lib.hid hp
    have h8 := (permB_true hp).1
    clear hp
    go_enter Try.func34, Try.ntmps34
    go_wp2_with fail
    have hown0 : (w.alloc (.cells #[] 3)).ownsRow w.heap.size 3 1 (.slice (some ⟨w.heap.size, 0, none⟩) 0 0) (placesL (descH xs) 0).length ((placesL (descH xs) 0).map (Value.int .i64)) := World.ownsRow_lit w #[] 0 (Nat.le_refl _) (by unfold maxLen; omega) rfl
    have hb1 := (Below.refl w.heap.size w).alloc (Nat.le_refl _) (.cells #[] 3)
    go_loopw [3, 4] (fun v i wr => ∃ (k : Nat) (A' : Option Addr) (c' : Nat), k ≤ xs.length ∧ i = .int .i64 k ∧ v = .slice A' (placesL (descH xs) k).length c' ∧ wr.ownsRow w.heap.size 3 1 (.slice A' (placesL (descH xs) k).length c') (placesL (descH xs) k).length ((placesL (descH xs) k).map (Value.int .i64)) ∧ Below w.heap.size w wr) (fun _ i _ => xs.length - (intOf i).toNat)
    case atStart => exact ⟨0, _, _, Nat.zero_le _, rfl, rfl, hown0, hb1⟩
    case round =>
      clear hown0 hb1
      obtain ⟨k, A', c', hk, rfl, rfl, hown, hb⟩ := hrel
      have hpl := placesL_length (descH xs) k
      have hIn := h.next hb
      by_cases hlt : k + 1 < xs.length
      · have hd1 : decide ((k : Int) + 1 < (xs.length : Int)) = true := by simp; omega
        go_wp2_with fail
        refine (isPerm_spec _ _ _ _ hIn).mono ?_
        rintro e w1 ⟨rfl, hd⟩
        rw [HP.out]
        have hown := hd.own hown
        have hb := below_dr hb hd
        have hx := (hIn.dr hd).rd
        obtain ⟨b, off, rfl, _, hc⟩ := hx (by omega)
        have c1 := hc k (by omega)
        have c2 := hc (k + 1) hlt
        have e1 : IntKind.i64.wrap ((k : Int) + 1) = (k : Int) + 1 := IntWalk.i64_in _ (by omega)
        have e2 : ((k : Int) + 1).toNat = k + 1 := by omega
        have e3 : 0 ≤ (k : Int) + 1 := by omega
        have e4 : (k : Int) + 1 < (xs.length : Int) := by omega
        clear hc hx hIn
        by_cases hH : xs[k + 1] < xs[k]
        · have HS := Lib.hid (show placesL (descH xs) (k + 1) = placesL (descH xs) k ++ [(k : Int) + 1] by rw [placesL_succ, if_pos (by simp [descH, hlt, show k < xs.length by omega]; exact hH)])
          go_wp2_with fail
          go_quiet (fail)
          obtain ⟨wr, hwr⟩ : ∃ wr : World, wr = w1.drewN nq := ⟨_, rfl⟩
          have hd2 : Dr w1 wr := ⟨nq, hwr⟩
          rw [← hwr]
          have hown := hd2.own hown
          have hb := below_dr hb hd2
          have hsz : w.heap.size ≤ wr.heap.size := hb.size
          clear hwr hd2
          go_wp2_with (at_builtin; refine wpList_append_own _ rfl _ _ 24 rfl (w.heap.size) 3 i0 (.int .i64 0) 1 8 Try.underlying24 hi hz0 hz1 hz2 rfl (by decide) _ _ _ rfl (World.ownsRow.alloc hown _) ⟨wr.heap.size, 0, none⟩ 1 1 [.int .i64 ((k : Int) + 1)] rfl rfl (cell_one_new _ _ _) (by intro u hu; simp at hu; subst hu; rfl) (by unfold maxLen; omega) (by omega) (by simp; omega) ?_; intro v1 w1 hown1 hgrow1 _)
          have hb1 := (hb.alloc hsz (Obj.cells #[Value.int .i64 ((k : Int) + 1)] 3)).grown hgrow1 (by simp; omega) (by intro g hg; exact ((hown.lt g hg).1))
          have hS2 : w1.ownsRow w.heap.size 3 1 v1 (placesL (descH xs) (k + 1)).length ((placesL (descH xs) (k + 1)).map (Value.int .i64)) := by rw [HS.out]; simpa using hown1
          obtain ⟨A1, cc, rfl, _, _⟩ := own_shape hS2
          have hH1 := Lib.hid hS2
          have hH2 := Lib.hid hb1
          clear hS2 hown1 hgrow1 hb1 hown hb
          go_wp2_with fail
          go_roundw
          case rel => exact ⟨k + 1, A1, cc, by omega, by go_num, rfl, hH1.out, hH2.out⟩
          case measure => simp [intOf]; omega
        · have HS := Lib.hid (show placesL (descH xs) (k + 1) = placesL (descH xs) k by rw [placesL_succ, if_neg (by simp [descH, hlt, show k < xs.length by omega]; omega)])
          go_wp2_with fail
          go_quiet (fail)
          go_wp2_with fail
          go_roundw
          case rel => exact ⟨k + 1, A', c', by omega, by go_num, by rw [HS.out], by rw [HS.out]; exact (Dr.of _ nq).own hown, below_dr hb (Dr.of _ nq)⟩
          case measure => simp [intOf]; omega
      · have hd1 : decide ((k : Int) + 1 < (xs.length : Int)) = false := by simp; omega
        have HE := Lib.hid (show placesL (descH xs) xs.length = placesL (descH xs) k by
          rcases Nat.lt_or_ge k xs.length with h1 | h1
          · obtain h2 : xs.length = k + 1 := by omega
            rw [h2, placesL_succ, if_neg (by simp [descH]; omega)]
          · obtain h2 : xs.length = k := by omega
            rw [h2])
        go_wp2_with fail
        go_ret
        rw [HG.out, HE.out]
        exact ⟨A', c', rfl, (own_caps hown).1, (own_caps hown).2, hown, hb⟩
  · have hpf : permB xs = false := by simpa using hp
    have HG := Lib.hid (show listG xs (descH xs) = [] by rw [listG, if_neg hp])
    go_enter Try.func34, Try.ntmps34
    go_wp2_with fail
    have hb1 := (Below.refl w.heap.size w).alloc (Nat.le_refl _) (.cells #[] 3)
    have h1 := h.next hb1
    refine wp_loop_rounds 1 ?_
    rw [rounds_succ]
    by_cases hlt : 1 < xs.length
    · have hd1 : decide (((0 : Nat) : Int) + 1 < (xs.length : Int)) = true := by simp; omega
      go_wp2_with fail
      refine (isPerm_spec _ _ _ _ h1).mono ?_
      rintro e w1 ⟨rfl, hd⟩
      rw [hpf]
      clear hp hpf
      go_wp2_with fail
      go_ret
      rw [HG.out]
      exact ⟨_, _, rfl, Nat.le_refl _, Nat.zero_le _, hd.own (World.ownsRow_lit w #[] 0 (Nat.le_refl _) (Nat.zero_le _) rfl), below_dr hb1 hd⟩
    · have hd1 : decide (((0 : Nat) : Int) + 1 < (xs.length : Int)) = false := by rw [decide_eq_false_iff_not]; omega
      go_wp2_with fail
      go_ret
      rw [HG.out]
      exact ⟨_, _, rfl, Nat.le_refl _, Nat.zero_le _, World.ownsRow_lit w #[] 0 (Nat.le_refl _) (Nat.zero_le _) rfl, hb1⟩

def leastL (s : Int) (l : List Int) : Int := l.foldl (fun m x => if x < m then x else m) s
theorem leastL_le (s : Int) (l : List Int) : leastL s l ≤ s := by
  induction l generalizing s with
  | nil => exact Int.le_refl _
  | cons y l ih =>
    have := ih (if y < s then y else s)
    have h2 : leastL s (y :: l) = leastL (if y < s then y else s) l := rfl
    rw [h2]
    refine Int.le_trans this ?_
    split <;> omega
theorem leastL_lt (s : Int) (l : List Int) (x : Int) (hs : x < s) (hne : x ∉ l) : x < leastL s l ↔ ∀ y ∈ l, ¬ y < x := by
  induction l generalizing s with
  | nil => simp [leastL, hs]
  | cons y l ih =>
    have h2 : leastL s (y :: l) = leastL (if y < s then y else s) l := rfl
    rw [h2]
    have hy : y ≠ x := fun e => hne (by simp [e])
    have hne' : x ∉ l := fun e => hne (by simp [e])
    have hle := leastL_le (if y < s then y else s) l
    by_cases h : y < x
    · constructor
      · intro h3
        have : (if y < s then y else s) ≤ y := by split <;> omega
        omega
      · intro h3; exact absurd h (h3 y (by simp))
    · rw [ih _ (by split <;> omega) hne']
      constructor
      · intro g z hz
        rcases List.mem_cons.1 hz with rfl | hz
        · exact h
        · exact g z hz
      · intro g z hz
        exact g z (by simp [hz])
theorem leastL_snoc (s : Int) (l : List Int) (x : Int) : leastL s (l ++ [x]) = if x < leastL s l then x else leastL s l := by unfold leastL; rw [List.foldl_append]; rfl
def mostL (s : Int) (l : List Int) : Int := l.foldl (fun m x => if x > m then x else m) s
theorem mostL_le (s : Int) (l : List Int) : s ≤ mostL s l := by
  induction l generalizing s with
  | nil => exact Int.le_refl _
  | cons y l ih =>
    have := ih (if y > s then y else s)
    have h2 : mostL s (y :: l) = mostL (if y > s then y else s) l := rfl
    rw [h2]
    refine Int.le_trans ?_ this
    split <;> omega
theorem mostL_lt (s : Int) (l : List Int) (x : Int) (hs : s < x) (hne : x ∉ l) : mostL s l < x ↔ ∀ y ∈ l, ¬ y > x := by
  induction l generalizing s with
  | nil => simp [mostL, hs]
  | cons y l ih =>
    have h2 : mostL s (y :: l) = mostL (if y > s then y else s) l := rfl
    rw [h2]
    have hy : y ≠ x := fun e => hne (by simp [e])
    have hne' : x ∉ l := fun e => hne (by simp [e])
    have hle := mostL_le (if y > s then y else s) l
    by_cases h : y > x
    · constructor
      · intro h3
        have : y ≤ (if y > s then y else s) := by split <;> omega
        omega
      · intro h3; exact absurd h (h3 y (by simp))
    · rw [ih _ (by split <;> omega) hne']
      constructor
      · intro g z hz
        rcases List.mem_cons.1 hz with rfl | hz
        · exact h
        · exact g z hz
      · intro g z hz
        exact g z (by simp [hz])
theorem mostL_snoc (s : Int) (l : List Int) (x : Int) : mostL s (l ++ [x]) = if x > mostL s l then x else mostL s l := by unfold mostL; rw [List.foldl_append]; rfl
theorem mem_take_iff {xs : List Int} {k : Nat} {y : Int} (hk : k ≤ xs.length) : y ∈ xs.take k ↔ ∃ j, j < k ∧ xs[j]?.getD 0 = y := by
  constructor
  · intro h
    obtain ⟨j, hj, rfl⟩ := List.getElem_of_mem h
    simp only [List.length_take] at hj
    exact ⟨j, by omega, by simp [show j < xs.length by omega]⟩
  · rintro ⟨j, hj, rfl⟩
    rw [List.getElem?_eq_getElem (show j < xs.length by omega)]
    exact List.mem_take_iff_getElem.2 ⟨j, by omega, rfl⟩
theorem not_mem_take {xs : List Int} {k : Nat} (hk : k < xs.length) (h : xs.Nodup) : xs[k] ∉ xs.take k := by
  have h' := (List.take_sublist (k + 1) xs).nodup h
  rw [List.take_succ_eq_append_getElem hk] at h'
  exact ((nodup_snoc _ _).1 h').2

theorem lowH_iff {xs : List Int} (hr : ∀ v ∈ xs, 1 ≤ v ∧ v ≤ xs.length) (hn : xs.Nodup) {k : Nat} (hlt : k < xs.length) : lowH xs k = true ↔ xs[k] < leastL ((xs.length : Int) + 1) (xs.take k) := by
  rw [leastL_lt ((xs.length : Int) + 1) (xs.take k) xs[k] (by have := (hr _ (List.getElem_mem hlt)).2; omega) (not_mem_take hlt hn)]
  unfold lowH lowHAt
  rw [List.all_eq_true]
  constructor
  · intro h y hy
    obtain ⟨j, hj, rfl⟩ := (mem_take_iff (Nat.le_of_lt hlt)).1 hy
    have := h j (List.mem_range.2 hj)
    rw [List.getElem?_eq_getElem hlt] at this
    simpa using this
  · intro h j hj
    have := h _ ((mem_take_iff (Nat.le_of_lt hlt)).2 ⟨j, List.mem_range.1 hj, rfl⟩)
    rw [List.getElem?_eq_getElem hlt]
    simpa using this
set_option maxHeartbeats 1000000 in
theorem lows_spec (A : Option Addr) (c : Nat) (xs : List Int) (w : World) (h : In w A c xs) :
    Calls Try.prog 38 #[.slice A xs.length c] w (Ret (Value.int .i64) 3 w (listG xs (lowH xs))) := by
  obtain ⟨i0, hi, hz0, hz1, hz2⟩ := info_parts infoI
  have hlen := h.len
  by_cases hp : permB xs = true
  · have HG := Lib.hid (show listG xs (lowH xs) = placesL (lowH xs) xs.length by rw [listG, if_pos hp])
    have HP := Lib.hid hp
    obtain ⟨h8, hr, hn⟩ := permB_true hp
    have HR := Lib.hid hr
    have HN := Lib.hid hn
    clear hp hr hn
    go_enter Try.func38, Try.ntmps38
    go_wp2_with fail
    have hown0 : (w.alloc (.cells #[] 3)).ownsRow w.heap.size 3 1 (.slice (some ⟨w.heap.size, 0, none⟩) 0 0) (placesL (lowH xs) 0).length ((placesL (lowH xs) 0).map (Value.int .i64)) := World.ownsRow_lit w #[] 0 (Nat.le_refl _) (by unfold maxLen; omega) rfl
    have hb1 := (Below.refl w.heap.size w).alloc (Nat.le_refl _) (.cells #[] 3)
    go_loopw [3, 4, 5] (fun v m i wr => ∃ (k : Nat) (A' : Option Addr) (c' : Nat), k ≤ xs.length ∧ i = .int .i64 k ∧ m = .int .i64 (leastL ((xs.length : Int) + 1) (xs.take k)) ∧ v = .slice A' (placesL (lowH xs) k).length c' ∧ wr.ownsRow w.heap.size 3 1 (.slice A' (placesL (lowH xs) k).length c') (placesL (lowH xs) k).length ((placesL (lowH xs) k).map (Value.int .i64)) ∧ Below w.heap.size w wr) (fun _ _ i _ => xs.length - (intOf i).toNat)
    case atStart => exact ⟨0, _, _, Nat.zero_le _, rfl, rfl, rfl, hown0, hb1⟩
    case round =>
      clear hown0 hb1
      obtain ⟨k, A', c', hk, rfl, rfl, rfl, hown, hb⟩ := hrel
      have hpl := placesL_length (lowH xs) k
      have hIn := h.next hb
      rcases Nat.lt_or_ge k xs.length with hlt | hge
      · have hd1 : decide ((k : Int) < (xs.length : Int)) = true := by simp; omega
        go_wp2_with fail
        refine (isPerm_spec _ _ _ _ hIn).mono ?_
        rintro e wr ⟨rfl, hd⟩
        rw [HP.out]
        have hown := hd.own hown
        have hb := below_dr hb hd
        have hsz : w.heap.size ≤ wr.heap.size := hb.size
        have hx := (hIn.dr hd).rd
        obtain ⟨b, off, rfl, _, hc⟩ := hx (by omega)
        have c1 := hc k hlt
        have HI := Lib.hid (lowH_iff HR.out HN.out hlt)
        have HT := Lib.hid (show leastL ((xs.length : Int) + 1) (xs.take (k + 1)) = if xs[k] < leastL ((xs.length : Int) + 1) (xs.take k) then xs[k] else leastL ((xs.length : Int) + 1) (xs.take k) by rw [List.take_succ_eq_append_getElem hlt, leastL_snoc])
        clear hc hx hIn
        by_cases hH : xs[k] < leastL ((xs.length : Int) + 1) (xs.take k)
        · have HS := Lib.hid (show placesL (lowH xs) (k + 1) = placesL (lowH xs) k ++ [(k : Int) + 1] by rw [placesL_succ, if_pos (HI.out.2 hH)])
          have HT2 := Lib.hid (show leastL ((xs.length : Int) + 1) (xs.take (k + 1)) = xs[k] by rw [HT.out, if_pos hH])
          go_wp2_with (at_builtin; refine wpList_append_own _ rfl _ _ 24 rfl (w.heap.size) 3 i0 (.int .i64 0) 1 8 Try.underlying24 hi hz0 hz1 hz2 rfl (by decide) _ _ _ rfl (World.ownsRow.alloc hown _) ⟨wr.heap.size, 0, none⟩ 1 1 [.int .i64 ((k : Int) + 1)] rfl rfl (cell_one_new _ _ _) (by intro u hu; simp at hu; subst hu; rfl) (by unfold maxLen; omega) (by omega) (by simp; omega) ?_; intro v1 w1 hown1 hgrow1 _)
          have hb1 := (hb.alloc hsz (Obj.cells #[Value.int .i64 ((k : Int) + 1)] 3)).grown hgrow1 (by simp; omega) (by intro g hg; exact ((hown.lt g hg).1))
          have hS2 : w1.ownsRow w.heap.size 3 1 v1 (placesL (lowH xs) (k + 1)).length ((placesL (lowH xs) (k + 1)).map (Value.int .i64)) := by rw [HS.out]; simpa using hown1
          obtain ⟨A1, cc, rfl, _, _⟩ := own_shape hS2
          have hH1 := Lib.hid hS2
          have hH2 := Lib.hid hb1
          clear hS2 hown1 hgrow1 hb1 hown hb
          go_wp2_with fail
          go_roundw
          case rel => exact ⟨k + 1, A1, cc, by omega, by go_num, by rw [HT2.out], rfl, hH1.out, hH2.out⟩
          case measure => simp [intOf]; omega
        · have HS := Lib.hid (show placesL (lowH xs) (k + 1) = placesL (lowH xs) k by rw [placesL_succ, if_neg (fun h => hH (HI.out.1 h))])
          have HT2 := Lib.hid (show leastL ((xs.length : Int) + 1) (xs.take (k + 1)) = leastL ((xs.length : Int) + 1) (xs.take k) by rw [HT.out, if_neg hH])
          go_wp2_with fail
          go_roundw
          case rel => exact ⟨k + 1, A', c', by omega, by go_num, by rw [HT2.out], by rw [HS.out], by rw [HS.out]; exact hown, hb⟩
          case measure => simp [intOf]; omega
      · have hd1 : decide ((k : Int) < (xs.length : Int)) = false := by simp; omega
        obtain rfl : k = xs.length := by omega
        go_wp2_with fail
        go_ret
        rw [HG.out]
        exact ⟨A', c', rfl, (own_caps hown).1, (own_caps hown).2, hown, hb⟩
  · have hpf : permB xs = false := by simpa using hp
    have HG := Lib.hid (show listG xs (lowH xs) = [] by rw [listG, if_neg hp])
    go_enter Try.func38, Try.ntmps38
    go_wp2_with fail
    have hb1 := (Below.refl w.heap.size w).alloc (Nat.le_refl _) (.cells #[] 3)
    have h1 := h.next hb1
    refine wp_loop_rounds 1 ?_
    rw [rounds_succ]
    by_cases hlt : 0 < xs.length
    · have hd1 : decide ((0 : Int) < (xs.length : Int)) = true := by simp; omega
      go_wp2_with fail
      refine (isPerm_spec _ _ _ _ h1).mono ?_
      rintro e w1 ⟨rfl, hd⟩
      rw [hpf]
      clear hp hpf
      go_wp2_with fail
      go_ret
      rw [HG.out]
      exact ⟨_, _, rfl, Nat.le_refl _, Nat.zero_le _, hd.own (World.ownsRow_lit w #[] 0 (Nat.le_refl _) (Nat.zero_le _) rfl), below_dr hb1 hd⟩
    · have hd1 : decide ((0 : Int) < (xs.length : Int)) = false := by rw [decide_eq_false_iff_not]; omega
      go_wp2_with fail
      go_ret
      rw [HG.out]
      exact ⟨_, _, rfl, Nat.le_refl _, Nat.zero_le _, World.ownsRow_lit w #[] 0 (Nat.le_refl _) (Nat.zero_le _) rfl, hb1⟩

theorem recH_iff {xs : List Int} (hr : ∀ v ∈ xs, 1 ≤ v ∧ v ≤ xs.length) (hn : xs.Nodup) {k : Nat} (hlt : k < xs.length) : recH xs k = true ↔ mostL 0 (xs.take k) < xs[k] := by
  rw [mostL_lt 0 (xs.take k) xs[k] (by have := (hr _ (List.getElem_mem hlt)).1; omega) (not_mem_take hlt hn)]
  unfold recH recHAt
  rw [List.all_eq_true]
  constructor
  · intro h y hy
    obtain ⟨j, hj, rfl⟩ := (mem_take_iff (Nat.le_of_lt hlt)).1 hy
    have := h j (List.mem_range.2 hj)
    rw [List.getElem?_eq_getElem hlt] at this
    simpa using this
  · intro h j hj
    have := h _ ((mem_take_iff (Nat.le_of_lt hlt)).2 ⟨j, List.mem_range.1 hj, rfl⟩)
    rw [List.getElem?_eq_getElem hlt]
    simpa using this
set_option maxHeartbeats 1000000 in
theorem records_spec (A : Option Addr) (c : Nat) (xs : List Int) (w : World) (h : In w A c xs) :
    Calls Try.prog 36 #[.slice A xs.length c] w (Ret (Value.int .i64) 3 w (listG xs (recH xs))) := by
  obtain ⟨i0, hi, hz0, hz1, hz2⟩ := info_parts infoI
  have hlen := h.len
  by_cases hp : permB xs = true
  · have HG := Lib.hid (show listG xs (recH xs) = placesL (recH xs) xs.length by rw [listG, if_pos hp])
    have HP := Lib.hid hp
    obtain ⟨h8, hr, hn⟩ := permB_true hp
    have HR := Lib.hid hr
    have HN := Lib.hid hn
    clear hp hr hn
    go_enter Try.func36, Try.ntmps36
    go_wp2_with fail
    have hown0 : (w.alloc (.cells #[] 3)).ownsRow w.heap.size 3 1 (.slice (some ⟨w.heap.size, 0, none⟩) 0 0) (placesL (recH xs) 0).length ((placesL (recH xs) 0).map (Value.int .i64)) := World.ownsRow_lit w #[] 0 (Nat.le_refl _) (by unfold maxLen; omega) rfl
    have hb1 := (Below.refl w.heap.size w).alloc (Nat.le_refl _) (.cells #[] 3)
    go_loopw [3, 4, 5] (fun v m i wr => ∃ (k : Nat) (A' : Option Addr) (c' : Nat), k ≤ xs.length ∧ i = .int .i64 k ∧ m = .int .i64 (mostL 0 (xs.take k)) ∧ v = .slice A' (placesL (recH xs) k).length c' ∧ wr.ownsRow w.heap.size 3 1 (.slice A' (placesL (recH xs) k).length c') (placesL (recH xs) k).length ((placesL (recH xs) k).map (Value.int .i64)) ∧ Below w.heap.size w wr) (fun _ _ i _ => xs.length - (intOf i).toNat)
    case atStart => exact ⟨0, _, _, Nat.zero_le _, rfl, rfl, rfl, hown0, hb1⟩
    case round =>
      clear hown0 hb1
      obtain ⟨k, A', c', hk, rfl, rfl, rfl, hown, hb⟩ := hrel
      have hpl := placesL_length (recH xs) k
      have hIn := h.next hb
      rcases Nat.lt_or_ge k xs.length with hlt | hge
      · have hd1 : decide ((k : Int) < (xs.length : Int)) = true := by simp; omega
        go_wp2_with fail
        refine (isPerm_spec _ _ _ _ hIn).mono ?_
        rintro e wr ⟨rfl, hd⟩
        rw [HP.out]
        have hown := hd.own hown
        have hb := below_dr hb hd
        have hsz : w.heap.size ≤ wr.heap.size := hb.size
        have hx := (hIn.dr hd).rd
        obtain ⟨b, off, rfl, _, hc⟩ := hx (by omega)
        have c1 := hc k hlt
        have HI := Lib.hid (recH_iff HR.out HN.out hlt)
        have HT := Lib.hid (show mostL 0 (xs.take (k + 1)) = if xs[k] > mostL 0 (xs.take k) then xs[k] else mostL 0 (xs.take k) by rw [List.take_succ_eq_append_getElem hlt, mostL_snoc])
        clear hc hx hIn
        by_cases hH : mostL 0 (xs.take k) < xs[k]
        · have HS := Lib.hid (show placesL (recH xs) (k + 1) = placesL (recH xs) k ++ [(k : Int) + 1] by rw [placesL_succ, if_pos (HI.out.2 hH)])
          have HT2 := Lib.hid (show mostL 0 (xs.take (k + 1)) = xs[k] by rw [HT.out, if_pos hH])
          go_wp2_with (at_builtin; refine wpList_append_own _ rfl _ _ 24 rfl (w.heap.size) 3 i0 (.int .i64 0) 1 8 Try.underlying24 hi hz0 hz1 hz2 rfl (by decide) _ _ _ rfl (World.ownsRow.alloc hown _) ⟨wr.heap.size, 0, none⟩ 1 1 [.int .i64 ((k : Int) + 1)] rfl rfl (cell_one_new _ _ _) (by intro u hu; simp at hu; subst hu; rfl) (by unfold maxLen; omega) (by omega) (by simp; omega) ?_; intro v1 w1 hown1 hgrow1 _)
          have hb1 := (hb.alloc hsz (Obj.cells #[Value.int .i64 ((k : Int) + 1)] 3)).grown hgrow1 (by simp; omega) (by intro g hg; exact ((hown.lt g hg).1))
          have hS2 : w1.ownsRow w.heap.size 3 1 v1 (placesL (recH xs) (k + 1)).length ((placesL (recH xs) (k + 1)).map (Value.int .i64)) := by rw [HS.out]; simpa using hown1
          obtain ⟨A1, cc, rfl, _, _⟩ := own_shape hS2
          have hH1 := Lib.hid hS2
          have hH2 := Lib.hid hb1
          clear hS2 hown1 hgrow1 hb1 hown hb
          go_wp2_with fail
          go_roundw
          case rel => exact ⟨k + 1, A1, cc, by omega, by go_num, by rw [HT2.out], rfl, hH1.out, hH2.out⟩
          case measure => simp [intOf]; omega
        · have HS := Lib.hid (show placesL (recH xs) (k + 1) = placesL (recH xs) k by rw [placesL_succ, if_neg (fun h => hH (HI.out.1 h))])
          have HT2 := Lib.hid (show mostL 0 (xs.take (k + 1)) = mostL 0 (xs.take k) by rw [HT.out, if_neg hH])
          go_wp2_with fail
          go_roundw
          case rel => exact ⟨k + 1, A', c', by omega, by go_num, by rw [HT2.out], by rw [HS.out], by rw [HS.out]; exact hown, hb⟩
          case measure => simp [intOf]; omega
      · have hd1 : decide ((k : Int) < (xs.length : Int)) = false := by simp; omega
        obtain rfl : k = xs.length := by omega
        go_wp2_with fail
        go_ret
        rw [HG.out]
        exact ⟨A', c', rfl, (own_caps hown).1, (own_caps hown).2, hown, hb⟩
  · have hpf : permB xs = false := by simpa using hp
    have HG := Lib.hid (show listG xs (recH xs) = [] by rw [listG, if_neg hp])
    go_enter Try.func36, Try.ntmps36
    go_wp2_with fail
    have hb1 := (Below.refl w.heap.size w).alloc (Nat.le_refl _) (.cells #[] 3)
    have h1 := h.next hb1
    refine wp_loop_rounds 1 ?_
    rw [rounds_succ]
    by_cases hlt : 0 < xs.length
    · have hd1 : decide ((0 : Int) < (xs.length : Int)) = true := by simp; omega
      go_wp2_with fail
      refine (isPerm_spec _ _ _ _ h1).mono ?_
      rintro e w1 ⟨rfl, hd⟩
      rw [hpf]
      clear hp hpf
      go_wp2_with fail
      go_ret
      rw [HG.out]
      exact ⟨_, _, rfl, Nat.le_refl _, Nat.zero_le _, hd.own (World.ownsRow_lit w #[] 0 (Nat.le_refl _) (Nat.zero_le _) rfl), below_dr hb1 hd⟩
    · have hd1 : decide ((0 : Int) < (xs.length : Int)) = false := by rw [decide_eq_false_iff_not]; omega
      go_wp2_with fail
      go_ret
      rw [HG.out]
      exact ⟨_, _, rfl, Nat.le_refl _, Nat.zero_le _, World.ownsRow_lit w #[] 0 (Nat.le_refl _) (Nat.zero_le _) rfl, hb1⟩

set_option maxHeartbeats 400000 in
theorem major_spec (A : Option Addr) (c : Nat) (xs : List Int) (w : World) (h : In w A c xs) :
    Calls Try.prog 31 #[.slice A xs.length c] w (Rb w (.int .i64 (majorG xs))) := by
  by_cases hp : permB xs = true
  · have HG := Lib.hid (show majorG xs = sumL (listG xs (descH xs)) by rw [majorG, if_pos hp])
    have hL := listG_length xs (descH xs)
    obtain ⟨L, hLe⟩ : ∃ L, L = listG xs (descH xs) := ⟨_, rfl⟩
    go_enter Try.func31, Try.ntmps31
    go_wp2_with fail
    refine (isPerm_spec _ _ _ _ h).mono ?_
    rintro e w1 ⟨rfl, hd⟩
    have hb1 := below_dr (Below.refl w.heap.size w) hd
    rw [hp]
    clear hp
    go_wp2_with fail
    refine (descents_spec A c xs _ (h.dr hd)).mono ?_
    rw [← hLe]
    rw [← hLe] at hL
    have HL := Lib.hid hLe
    clear hLe
    rintro e w2 ⟨A1, c1, rfl, q1, q2, hown, hb⟩
    have hr := Rd.of_own hown
    have hB := hb1.trans (hb.mono hb1.size)
    clear hown
    go_wp2_with fail
    go_loop [3, 5] (fun s i => ∃ k : Nat, k ≤ L.length ∧ i = .int .i64 k ∧ s = .int .i64 (sumL (L.take k))) (fun _ i => L.length - (intOf i).toNat)
    case atStart => exact ⟨0, Nat.zero_le _, rfl, rfl⟩
    case round =>
      obtain ⟨k, hk, rfl, rfl⟩ := hrel
      rcases Nat.lt_or_ge k L.length with hlt | hge
      · obtain ⟨b, off, rfl, _, hc⟩ := hr (by omega)
        have ck := hc k hlt
        have HS := Lib.hid (sumL_succ L k hlt)
        clear hc
        go_wp2
        go_round
        case rel => exact ⟨k + 1, by omega, by go_num, by rw [HS.out]⟩
        case measure => simp [intOf]; omega
      · go_wp2
        go_ret
        exact ⟨ret_int (by rw [HG.out, ← HL.out, List.take_of_length_le hge]), hB⟩
  · have hpf : permB xs = false := by simpa using hp
    have HG := Lib.hid (show majorG xs = -1 by rw [majorG, if_neg hp])
    go_enter Try.func31, Try.ntmps31
    go_wp2_with fail
    refine (isPerm_spec _ _ _ _ h).mono ?_
    rintro e w1 ⟨rfl, hd⟩
    rw [hpf]
    clear hp hpf
    go_wp2_with fail
    go_ret
    exact ⟨ret_int HG.out.symm, below_dr (Below.refl _ _) hd⟩

end Go.Proofs.Ythipikllgpnlhaa