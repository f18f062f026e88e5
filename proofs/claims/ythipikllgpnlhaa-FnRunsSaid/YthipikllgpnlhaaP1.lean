/- Plain: what a permutation is; contracts of IsPerm, program and reference. -/
import Derived.Test.YthipikllgpnlhaaC2
import Derived.BigQuiet
namespace Go.Proofs.Ythipikllgpnlhaa
set_option maxRecDepth 100000
open Go Go.RowKit

theorem own_putB {α : Type} {f : α → Value} {w : World} {base e g n cap : Nat} {xs : List α} (h : w.ownsRow base e 1 (.slice (some ⟨g, 0, none⟩) n cap) n (xs.map f)) (j : Nat) (hj : j < xs.length) (x : α) :
    w.cell? ⟨g, j, none⟩ = some (f xs[j]) ∧ w.frozen? ⟨g, j, none⟩ = false ∧ (w.setCell ⟨g, j, none⟩ (f x)).ownsRow base e 1 (.slice (some ⟨g, 0, none⟩) n cap) n ((xs.set j x).map f) := by
  have hl := own_len h
  simp only [List.length_map] at hl
  refine ⟨?_, h.frozenAt j, ?_⟩
  · rw [h.cellAt j (by omega)]; simp [hj]
  · rw [List.map_set]; exact (h.stored j (f x)).1

def permB (xs : List Int) : Bool := decide (xs.length ≤ 8 ∧ (∀ v ∈ xs, 1 ≤ v ∧ v ≤ xs.length) ∧ xs.Nodup)

theorem permB_true {xs : List Int} (h : permB xs = true) : xs.length ≤ 8 ∧ (∀ v ∈ xs, 1 ≤ v ∧ v ≤ xs.length) ∧ xs.Nodup := by simpa [permB] using h

theorem nodup_snoc (xs : List Int) (x : Int) : (xs ++ [x]).Nodup ↔ xs.Nodup ∧ x ∉ xs := by
  rw [List.nodup_append]
  simp only [List.mem_singleton]
  constructor
  · rintro ⟨h1, _, h3⟩; exact ⟨h1, fun hx => h3 x hx x rfl rfl⟩
  · rintro ⟨h1, h2⟩; exact ⟨h1, by simp, fun a ha b hb e => h2 (by subst hb; subst e; exact ha)⟩

/-- One element more has been looked at and found right. -/
theorem perm_step {xs : List Int} {k : Nat} (hk : k < xs.length) (h1 : ∀ v ∈ xs.take k, 1 ≤ v ∧ v ≤ xs.length) (h2 : (xs.take k).Nodup) (h3 : 1 ≤ xs[k] ∧ xs[k] ≤ xs.length) (h4 : xs[k] ∉ xs.take k) :
    (∀ v ∈ xs.take (k + 1), 1 ≤ v ∧ v ≤ xs.length) ∧ (xs.take (k + 1)).Nodup := by
  rw [List.take_succ_eq_append_getElem hk]
  exact ⟨fun v hv => by
    rcases List.mem_append.1 hv with h | h
    · exact h1 v h
    · rw [List.mem_singleton.1 h]; exact h3, (nodup_snoc _ _).2 ⟨h2, h4⟩⟩
theorem perm_bad1 {xs : List Int} {k : Nat} (hk : k < xs.length) (h3 : ¬ (1 ≤ xs[k] ∧ xs[k] ≤ xs.length)) : permB xs = false := by
  unfold permB
  rw [decide_eq_false_iff_not]
  rintro ⟨_, h, _⟩
  exact h3 (h _ (List.getElem_mem hk))
theorem perm_bad2 {xs : List Int} {k : Nat} (hk : k < xs.length) (h4 : xs[k] ∈ xs.take k) : permB xs = false := by
  unfold permB
  rw [decide_eq_false_iff_not]
  rintro ⟨_, _, h⟩
  have h' := (List.take_sublist (k + 1) xs).nodup h
  rw [List.take_succ_eq_append_getElem hk] at h'
  exact ((nodup_snoc _ _).1 h').2 h4
theorem perm_all {xs : List Int} (h0 : xs.length ≤ 8) (h1 : ∀ v ∈ xs.take xs.length, 1 ≤ v ∧ v ≤ xs.length) (h2 : (xs.take xs.length).Nodup) : permB xs = true := by
  rw [List.take_length] at h1 h2
  unfold permB
  rw [decide_eq_true_eq]
  exact ⟨h0, h1, h2⟩

set_option maxHeartbeats 400000 in
theorem l2Has_any (A : Option Addr) (c n : Nat) (xs : List Int) (x : Int) (w : World) (hn : xs.length = n) (hl : n ≤ 4611686018427387904) (hx : Rd (Value.int .i64) w w.heap.size A xs) :
    Calls Try.prog 89 #[.slice A n c, .int .i64 x] w fun e w' => e = .returned (.bool (decide (x ∈ xs))) ∧ w = w' := by
  subst hn
  go_enter Try.func89, Try.ntmps89
  go_wp2
  go_loop [5] (fun i => ∃ k : Nat, k ≤ xs.length ∧ i = .int .i64 k ∧ x ∉ xs.take k) (fun i => xs.length - (intOf i).toNat)
  case atStart => exact ⟨0, Nat.zero_le _, rfl, by simp⟩
  case round =>
    obtain ⟨k, hk, rfl, hno⟩ := hrel
    have HN := Lib.hid hno
    clear hno
    rcases Nat.lt_or_ge k xs.length with hlt | hge
    · obtain ⟨b, off, rfl, _, hc⟩ := hx (by omega)
      have c1 := hc k hlt
      clear hc
      by_cases he : xs[k] = x
      · have hd : (xs[k] == x) = true := by simp [he]
        have HE := Lib.hid he
        clear he
        go_wp2
        go_ret
        exact ⟨ret_bool (by symm; rw [decide_eq_true_eq, ← HE.out]; exact List.getElem_mem hlt), rfl⟩
      · have hd : (xs[k] == x) = false := by simp [he]
        have HE := Lib.hid he
        clear he
        go_wp2
        go_round
        case rel => exact ⟨k + 1, by omega, by go_num, by rw [List.take_succ_eq_append_getElem hlt]; intro hm; rcases List.mem_append.1 hm with h | h; exact HN.out h; exact HE.out (List.mem_singleton.1 h).symm⟩
        case measure => simp [intOf]; omega
    · go_wp2
      go_ret
      exact ⟨ret_bool (by symm; rw [decide_eq_false_iff_not]; have := HN.out; rwa [List.take_of_length_le hge] at this), rfl⟩

set_option maxHeartbeats 800000 in
theorem isPerm_spec (A : Option Addr) (c : Nat) (xs : List Int) (w : World) (h : In w A c xs) :
    Calls Try.prog 19 #[.slice A xs.length c] w (Rq w (.bool (permB xs))) := by
  obtain ⟨hl, hcap, hx⟩ := h
  rcases Nat.lt_or_ge 8 xs.length with h8 | h8
  · have HP := Lib.hid (show permB xs = false by unfold permB; rw [decide_eq_false_iff_not]; omega)
    go_enter Try.func19, Try.ntmps19
    go_wp2
    refine wp_loop_rounds 1 ?_
    rw [rounds_succ]
    go_wp2
    go_ret
    exact ⟨ret_bool (by rw [HP.out]; simp; omega), Dr.refl _⟩
  · go_enter Try.func19, Try.ntmps19
    go_wp2
    go_loopw [3] (fun i wr => ∃ k : Nat, k ≤ xs.length ∧ i = .int .i64 k ∧ (∀ v ∈ xs.take k, 1 ≤ v ∧ v ≤ xs.length) ∧ (xs.take k).Nodup ∧ Dr w wr) (fun i _ => xs.length - (intOf i).toNat)
    case atStart => exact ⟨0, Nat.zero_le _, rfl, by simp, by simp, Dr.refl _⟩
    case round =>
      obtain ⟨k, hk, rfl, h1, h2, hd⟩ := hrel
      have H1 := Lib.hid h1
      have H2 := Lib.hid h2
      have hxr := hx.dr hd
      rw [← hd.heap] at hxr
      have HX := Lib.hid hxr
      clear h1 h2 hxr
      rcases Nat.lt_or_ge k xs.length with hlt | hge
      · obtain ⟨b, off, rfl, hbb, hc⟩ := HX.out (by omega)
        have c1 := hc k hlt
        clear hc
        by_cases h3 : 1 ≤ xs[k] ∧ xs[k] ≤ xs.length
        · have d3 : decide (1 ≤ xs[k] ∧ xs[k] ≤ (xs.length : Int)) = true := by simp [h3]
          have H3 := Lib.hid h3
          clear h3
          have hc0 : ¬ c = 0 := by omega
          have hkc : k ≤ c := by omega
          have hrt : Rd (Value.int .i64) wr wr.heap.size (some ⟨b, off, none⟩) (xs.take k) := HX.out.take k
          have HR := Lib.hid hrt
          have hlen : (xs.take k).length = k := by simp; omega
          have HLEN := Lib.hid hlen
          have hk4 : k ≤ 4611686018427387904 := by omega
          clear hrt hlen
          by_cases h4 : xs[k] ∈ xs.take k
          · have d4 : decide (xs[k] ∈ xs.take k) = true := by simp [h4]
            have H4 := Lib.hid h4
            clear h4
            go_wp2
            go_quiet ((first | (go_at_call 87; exact quiet_eq (l1In_any _ _ _ _)) | (go_at_call 89; exact quiet_eq (l2Has_any _ _ _ (xs.take k) _ _ HLEN.out hk4 HR.out))))
            go_wp2
            go_ret
            exact ⟨ret_bool (perm_bad2 hlt H4.out).symm, (by first | with_reducible assumption | with_reducible exact hd | with_reducible exact Dr.drewN hd _ | with_reducible exact Dr.drewN (Dr.drewN hd _) _ | with_reducible exact Dr.drew hd)⟩
          · have d4 : decide (xs[k] ∈ xs.take k) = false := by simp [h4]
            have H4 := Lib.hid h4
            clear h4
            go_wp2
            go_quiet ((first | (go_at_call 87; exact quiet_eq (l1In_any _ _ _ _)) | (go_at_call 89; exact quiet_eq (l2Has_any _ _ _ (xs.take k) _ _ HLEN.out hk4 HR.out))))
            go_wp2
            go_roundw
            case rel => exact ⟨k + 1, by omega, by go_num, (perm_step hlt H1.out H2.out H3.out H4.out).1, (perm_step hlt H1.out H2.out H3.out H4.out).2, (by first | with_reducible assumption | with_reducible exact hd | with_reducible exact Dr.drewN hd _ | with_reducible exact Dr.drewN (Dr.drewN hd _) _ | with_reducible exact Dr.drew hd)⟩
            case measure => simp [intOf]; omega
        · have d3 : decide (1 ≤ xs[k] ∧ xs[k] ≤ (xs.length : Int)) = false := by rw [decide_eq_false_iff_not]; exact h3
          have H3 := Lib.hid h3
          clear h3
          go_wp2
          go_quiet ((go_at_call 87; exact quiet_eq (l1In_any _ _ _ _)))
          go_wp2
          go_ret
          exact ⟨ret_bool (perm_bad1 hlt H3.out).symm, (by first | with_reducible assumption | with_reducible exact hd | with_reducible exact Dr.drewN hd _ | with_reducible exact Dr.drewN (Dr.drewN hd _) _ | with_reducible exact Dr.drew hd)⟩
      · obtain rfl : k = xs.length := by omega
        go_wp2
        go_ret
        exact ⟨ret_bool (by rw [perm_all h8 H1.out H2.out]; simp; omega), (by first | with_reducible assumption | with_reducible exact hd | with_reducible exact Dr.drewN hd _ | with_reducible exact Dr.drewN (Dr.drewN hd _) _ | with_reducible exact Dr.drew hd)⟩

theorem infoB : (Try.prog.info? 4).map (fun i => (i.zero, i.size, i.bytes)) = some (some (.bool false), 1, 1) := by kernel_rfl
def seenL (xs : List Int) (k : Nat) : List Bool := (List.range (xs.length + 1)).map fun v : Nat => decide ((v : Int) ∈ xs.take k)
theorem seenL_length (xs : List Int) (k : Nat) : (seenL xs k).length = xs.length + 1 := by simp [seenL]
theorem seenL_get (xs : List Int) (k v : Nat) (h : v < (seenL xs k).length) : (seenL xs k)[v] = decide ((v : Int) ∈ xs.take k) := by simp [seenL]
theorem seenL_zero (xs : List Int) : seenL xs 0 = List.replicate (xs.length + 1) false := by
  apply List.ext_getElem
  · simp [seenL]
  · intro i h1 h2; rw [seenL_get]; simp
theorem seenL_set (xs : List Int) (k v : Nat) (hk : k < xs.length) (hv : xs[k] = (v : Int)) : (seenL xs k).set v true = seenL xs (k + 1) := by
  apply List.ext_getElem
  · simp [seenL]
  · intro i h1 h2
    rw [List.getElem_set, seenL_get _ _ _ (by rw [seenL_length] at *; exact h2), seenL_get, List.take_succ_eq_append_getElem hk, hv]
    by_cases e : v = i
    · subst e; simp
    · rw [if_neg e]
      have : ¬ (i : Int) = (v : Int) := by omega
      simp [this]
theorem made_falses {w : World} {base e n : Nat} {v : Value} (h : w.ownsRow base e 1 v n (madeCells (Value.bool false).cells (n * 1)).toList) : w.ownsRow base e 1 v n ((List.replicate n false).map Value.bool) := by
  rw [show (Value.bool false).cells = #[.bool false] from rfl, toList_madeCells_one, Nat.mul_one] at h
  simpa using h
def permL (xs : List Int) : Bool := decide ((∀ v ∈ xs, 1 ≤ v ∧ v ≤ xs.length) ∧ xs.Nodup)
theorem permB_permL (xs : List Int) (h : xs.length ≤ 8) : permL xs = permB xs := by simp [permL, permB, h]
theorem permL_bad1 {xs : List Int} {k : Nat} (hk : k < xs.length) (h3 : ¬ (1 ≤ xs[k] ∧ xs[k] ≤ xs.length)) : permL xs = false := by
  unfold permL
  rw [decide_eq_false_iff_not]
  rintro ⟨h, _⟩
  exact h3 (h _ (List.getElem_mem hk))
theorem permL_bad2 {xs : List Int} {k : Nat} (hk : k < xs.length) (h4 : xs[k] ∈ xs.take k) : permL xs = false := by
  unfold permL
  rw [decide_eq_false_iff_not]
  rintro ⟨_, h⟩
  have h' := (List.take_sublist (k + 1) xs).nodup h
  rw [List.take_succ_eq_append_getElem hk] at h'
  exact ((nodup_snoc _ _).1 h').2 h4
theorem permL_all {xs : List Int} (h1 : ∀ v ∈ xs.take xs.length, 1 ≤ v ∧ v ≤ xs.length) (h2 : (xs.take xs.length).Nodup) : permL xs = true := by
  rw [List.take_length] at h1 h2
  unfold permL
  rw [decide_eq_true_eq]
  exact ⟨h1, h2⟩

set_option maxHeartbeats 800000 in
theorem isPermL_impl (A : Option Addr) (c : Nat) (xs : List Int) (w : World) (h : In w A c xs) :
    Calls Try.prog 121 #[.slice A xs.length c] w (Rb w (.bool (permL xs))) := by
  obtain ⟨i0, hi, hz0, hz1, hz2⟩ := info_parts infoB
  obtain ⟨hl, _, hx⟩ := h
  go_enter Try.func121, Try.ntmps121
  go_wp2_with (at_make; refine wpList_make_full _ rfl _ _ 79 rfl (w.heap.size) 4 i0 (.bool false) 1 Try.underlying79 hi hz0 hz1 .i64 .i64 _ _ (xs.length + 1) rfl rfl (by omega) (by omega) (by rw [hz2]; omega) (by unfold maxLen; omega) (by omega) ?_; intro w1 hown1 hgrow1)
  have hown := made_falses hown1
  rw [← seenL_zero] at hown
  have hb := below_none hgrow1
  clear hown1 hgrow1
  go_wp2
  go_loopw [12] (fun i wr => ∃ k : Nat, k ≤ xs.length ∧ i = .int .i64 k ∧ (∀ v ∈ xs.take k, 1 ≤ v ∧ v ≤ xs.length) ∧ (xs.take k).Nodup ∧ wr.ownsRow w.heap.size 4 1 (.slice (some ⟨w.heap.size, 0, none⟩) (xs.length + 1) (xs.length + 1)) (xs.length + 1) ((seenL xs k).map Value.bool) ∧ Below w.heap.size w wr) (fun i _ => xs.length - (intOf i).toNat)
  case atStart => exact ⟨0, Nat.zero_le _, rfl, by simp, by simp, hown, hb⟩
  case round =>
    clear hown hb
    obtain ⟨k, hk, rfl, h1, h2, hown, hb⟩ := hrel
    have H1 := Lib.hid h1
    have H2 := Lib.hid h2
    have HX := Lib.hid (hx.below hb)
    clear h1 h2
    rcases Nat.lt_or_ge k xs.length with hlt | hge
    · obtain ⟨b, off, rfl, hbb, hc⟩ := HX.out (by omega)
      have c1 := hc k hlt
      clear hc
      by_cases h3 : 1 ≤ xs[k] ∧ xs[k] ≤ xs.length
      · obtain ⟨v, hv⟩ := Int.eq_ofNat_of_zero_le (show 0 ≤ xs[k] by omega)
        have H3 := Lib.hid h3
        have hvl : v < (seenL xs k).length := by rw [seenL_length]; omega
        have hv1 : 1 ≤ v := by omega
        have hv2 : v ≤ xs.length := by omega
        have HS := Lib.hid (seenL_set xs k v hlt hv)
        rw [hv] at c1
        obtain ⟨p1, p2, p3⟩ := own_putB hown v hvl true
        rw [seenL_get] at p1
        have HV := Lib.hid hv
        clear h3 hv
        by_cases h4 : (v : Int) ∈ xs.take k
        · rw [decide_eq_true h4] at p1
          have H4 := Lib.hid h4
          clear h4 p3 hown hvl
          go_wp2
          go_ret
          exact ⟨ret_bool (permL_bad2 hlt (by rw [HV.out]; exact H4.out)).symm, hb⟩
        · rw [decide_eq_false h4] at p1
          have H4 := Lib.hid h4
          have P3 := Lib.hid p3
          have B2 := Lib.hid (hb.setCell (p := ⟨w.heap.size, v, none⟩) (Nat.le_refl _) (.bool true))
          clear h4 p3 hown hvl hb
          go_wp2
          go_roundw
          case rel => exact ⟨k + 1, by omega, by go_num, (perm_step hlt H1.out H2.out H3.out (by rw [HV.out]; exact H4.out)).1, (perm_step hlt H1.out H2.out H3.out (by rw [HV.out]; exact H4.out)).2, by rw [← HS.out]; exact P3.out, B2.out⟩
          case measure => simp [intOf]; omega
      · have H3 := Lib.hid h3
        by_cases h5 : xs[k] < 1
        · clear h3
          go_wp2
          go_ret
          exact ⟨ret_bool (permL_bad1 hlt H3.out).symm, hb⟩
        · have h6 : (xs.length : Int) < xs[k] := by omega
          clear h3
          go_wp2
          go_ret
          exact ⟨ret_bool (permL_bad1 hlt H3.out).symm, hb⟩
    · obtain rfl : k = xs.length := by omega
      go_wp2
      go_ret
      exact ⟨ret_bool (permL_all H1.out H2.out).symm, hb⟩

set_option maxHeartbeats 400000 in
theorem isPerm_impl (A : Option Addr) (c : Nat) (xs : List Int) (w : World) (h : In w A c xs) :
    Calls Try.prog 74 #[.slice A xs.length c] w (Rb w (.bool (permB xs))) := by
  have hl := h.len
  rcases Nat.lt_or_ge 8 xs.length with h8 | h8
  · have HP := Lib.hid (show permB xs = false by unfold permB; rw [decide_eq_false_iff_not]; omega)
    have hd8 : decide ((xs.length : Int) ≤ 8) = false := by simp; omega
    go_enter Try.func74, Try.ntmps74
    go_wp2_with fail
    go_ret
    exact ⟨ret_bool HP.out.symm, Below.refl _ _⟩
  · have HP := Lib.hid (permB_permL xs h8)
    have hd8 : decide ((xs.length : Int) ≤ 8) = true := by simp; omega
    go_enter Try.func74, Try.ntmps74
    go_wp2_with fail
    refine (isPermL_impl _ _ _ _ h).mono ?_
    rintro e w1 ⟨rfl, hb⟩
    go_wp2_with fail
    go_ret
    exact ⟨ret_bool HP.out, hb⟩
end Go.Proofs.Ythipikllgpnlhaa
