/- Several texts in one, each with its own head: P1, P2, P2b, Q1, M2, P3, N1, R3, R4, R5, M1, M3, L2, S1. No program of ours. -/
import Derived.BigQuiet
import Derived.Test.YtldknpjeegdbmaaGreatProg
import Derived.Test.YtldknpjeegdbmaaGreatMTrees1
/- Plain: what a permutation is; contracts of IsPerm, program and reference. -/
namespace Go.Proofs.YtldknpjeegdbmaaGreat
set_option maxRecDepth 100000
open Go Go.RowKit

theorem own_putB {α : Type} {f : α → Value} {w : World} {base e g n cap : Nat} {xs : List α} (h : w.ownsRow base e 1 (.slice (some ⟨g, 0, none⟩) n cap) n (xs.map f)) (j : Nat) (hj : j < xs.length) (x : α) :
    w.cell? ⟨g, j, none⟩ = some (f xs[j]) ∧ w.frozen? ⟨g, j, none⟩ = false ∧ (w.setCell ⟨g, j, none⟩ (f x)).ownsRow base e 1 (.slice (some ⟨g, 0, none⟩) n cap) n ((xs.set j x).map f) := by
  have hl := own_len h
  simp only [List.length_map] at hl
  refine ⟨?_, h.frozenAt j, ?_⟩
  · rw [h.cellAt j (by omega)]; simp [hj]
  · rw [List.map_set]; exact (h.stored j (f x)).1

def permB (xs : List Int) : Bool := decide (xs.length ≤ 8 ∧ (∀ v ∈ xs, 1 ≤ v ∧ v ≤ xs.length) ∧ xs.Nodup)

theorem permB_true {xs : List Int} (h : permB xs = true) : xs.length ≤ 8 ∧ (∀ v ∈ xs, 1 ≤ v ∧ v ≤ xs.length) ∧ xs.Nodup := by simpa [permB] using h

theorem nodup_snoc (xs : List Int) (x : Int) : (xs ++ [x]).Nodup ↔ xs.Nodup ∧ x ∉ xs := by
  rw [List.nodup_append]
  simp only [List.mem_singleton]
  constructor
  · rintro ⟨h1, _, h3⟩; exact ⟨h1, fun hx => h3 x hx x rfl rfl⟩
  · rintro ⟨h1, h2⟩; exact ⟨h1, by simp, fun a ha b hb e => h2 (by subst hb; subst e; exact ha)⟩

/-- One element more has been looked at and found right. -/
theorem perm_step {xs : List Int} {k : Nat} (hk : k < xs.length) (h1 : ∀ v ∈ xs.take k, 1 ≤ v ∧ v ≤ xs.length) (h2 : (xs.take k).Nodup) (h3 : 1 ≤ xs[k] ∧ xs[k] ≤ xs.length) (h4 : xs[k] ∉ xs.take k) :
    (∀ v ∈ xs.take (k + 1), 1 ≤ v ∧ v ≤ xs.length) ∧ (xs.take (k + 1)).Nodup := by
  rw [List.take_succ_eq_append_getElem hk]
  exact ⟨fun v hv => by
    rcases List.mem_append.1 hv with h | h
    · exact h1 v h
    · rw [List.mem_singleton.1 h]; exact h3, (nodup_snoc _ _).2 ⟨h2, h4⟩⟩
theorem perm_bad1 {xs : List Int} {k : Nat} (hk : k < xs.length) (h3 : ¬ (1 ≤ xs[k] ∧ xs[k] ≤ xs.length)) : permB xs = false := by
  unfold permB
  rw [decide_eq_false_iff_not]
  rintro ⟨_, h, _⟩
  exact h3 (h _ (List.getElem_mem hk))
theorem perm_bad2 {xs : List Int} {k : Nat} (hk : k < xs.length) (h4 : xs[k] ∈ xs.take k) : permB xs = false := by
  unfold permB
  rw [decide_eq_false_iff_not]
  rintro ⟨_, _, h⟩
  have h' := (List.take_sublist (k + 1) xs).nodup h
  rw [List.take_succ_eq_append_getElem hk] at h'
  exact ((nodup_snoc _ _).1 h').2 h4
theorem perm_all {xs : List Int} (h0 : xs.length ≤ 8) (h1 : ∀ v ∈ xs.take xs.length, 1 ≤ v ∧ v ≤ xs.length) (h2 : (xs.take xs.length).Nodup) : permB xs = true := by
  rw [List.take_length] at h1 h2
  unfold permB
  rw [decide_eq_true_eq]
  exact ⟨h0, h1, h2⟩

set_option maxHeartbeats 400000 in
theorem l2Has_any (A : Option Addr) (c n : Nat) (xs : List Int) (x : Int) (w : World) (hn : xs.length = n) (hl : n ≤ 4611686018427387904) (hx : Rd (Value.int .i64) w w.heap.size A xs) :
    Calls Tryz.prog 49 #[.slice A n c, .int .i64 x] w fun e w' => e = .returned (.bool (decide (x ∈ xs))) ∧ w = w' := by
  subst hn
  go_enter Tryz.func49, Tryz.ntmps49
  go_wp2
  go_loop [5] (fun i => ∃ k : Nat, k ≤ xs.length ∧ i = .int .i64 k ∧ x ∉ xs.take k) (fun i => xs.length - (intOf i).toNat)
  case atStart => exact ⟨0, Nat.zero_le _, rfl, by simp⟩
  case round =>
    obtain ⟨k, hk, rfl, hno⟩ := hrel
    have HN := Lib.hid hno
    clear hno
    rcases Nat.lt_or_ge k xs.length with hlt | hge
    · obtain ⟨b, off, rfl, _, hc⟩ := hx (by omega)
      have c1 := hc k hlt
      clear hc
      by_cases he : xs[k] = x
      · have hd : (xs[k] == x) = true := by simp [he]
        have HE := Lib.hid he
        clear he
        go_wp2
        go_ret
        exact ⟨ret_bool (by symm; rw [decide_eq_true_eq, ← HE.out]; exact List.getElem_mem hlt), rfl⟩
      · have hd : (xs[k] == x) = false := by simp [he]
        have HE := Lib.hid he
        clear he
        go_wp2
        go_round
        case rel => exact ⟨k + 1, by omega, by go_num, by rw [List.take_succ_eq_append_getElem hlt]; intro hm; rcases List.mem_append.1 hm with h | h; exact HN.out h; exact HE.out (List.mem_singleton.1 h).symm⟩
        case measure => simp [intOf]; omega
    · go_wp2
      go_ret
      exact ⟨ret_bool (by symm; rw [decide_eq_false_iff_not]; have := HN.out; rwa [List.take_of_length_le hge] at this), rfl⟩

set_option maxHeartbeats 800000 in
theorem isPerm_spec (A : Option Addr) (c : Nat) (xs : List Int) (w : World) (h : In w A c xs) :
    Calls Tryz.prog 21 #[.slice A xs.length c] w (Rq w (.bool (permB xs))) := by
  obtain ⟨hl, hcap, hx⟩ := h
  rcases Nat.lt_or_ge 8 xs.length with h8 | h8
  · have HP := Lib.hid (show permB xs = false by unfold permB; rw [decide_eq_false_iff_not]; omega)
    go_enter Tryz.func21, Tryz.ntmps21
    go_wp2
    refine wp_loop_rounds 1 ?_
    rw [rounds_succ]
    go_wp2
    go_ret
    exact ⟨ret_bool (by rw [HP.out]; simp; omega), Dr.refl _⟩
  · go_enter Tryz.func21, Tryz.ntmps21
    go_wp2
    go_loopw [3] (fun i wr => ∃ k : Nat, k ≤ xs.length ∧ i = .int .i64 k ∧ (∀ v ∈ xs.take k, 1 ≤ v ∧ v ≤ xs.length) ∧ (xs.take k).Nodup ∧ Dr w wr) (fun i _ => xs.length - (intOf i).toNat)
    case atStart => exact ⟨0, Nat.zero_le _, rfl, by simp, by simp, Dr.refl _⟩
    case round =>
      obtain ⟨k, hk, rfl, h1, h2, hd⟩ := hrel
      have H1 := Lib.hid h1
      have H2 := Lib.hid h2
      have hxr := hx.dr hd
      rw [← hd.heap] at hxr
      have HX := Lib.hid hxr
      clear h1 h2 hxr
      rcases Nat.lt_or_ge k xs.length with hlt | hge
      · obtain ⟨b, off, rfl, hbb, hc⟩ := HX.out (by omega)
        have c1 := hc k hlt
        clear hc
        by_cases h3 : 1 ≤ xs[k] ∧ xs[k] ≤ xs.length
        · have d3 : decide (1 ≤ xs[k] ∧ xs[k] ≤ (xs.length : Int)) = true := by simp [h3]
          have H3 := Lib.hid h3
          clear h3
          have hc0 : ¬ c = 0 := by omega
          have hkc : k ≤ c := by omega
          have hrt : Rd (Value.int .i64) wr wr.heap.size (some ⟨b, off, none⟩) (xs.take k) := HX.out.take k
          have HR := Lib.hid hrt
          have hlen : (xs.take k).length = k := by simp; omega
          have HLEN := Lib.hid hlen
          have hk4 : k ≤ 4611686018427387904 := by omega
          clear hrt hlen
          by_cases h4 : xs[k] ∈ xs.take k
          · have d4 : decide (xs[k] ∈ xs.take k) = true := by simp [h4]
            have H4 := Lib.hid h4
            clear h4
            go_wp2
            go_quiet ((first | (go_at_call 48; exact quiet_eq (l1In_any _ _ _ _)) | (go_at_call 49; exact quiet_eq (l2Has_any _ _ _ (xs.take k) _ _ HLEN.out hk4 HR.out))))
            go_wp2
            go_ret
            exact ⟨ret_bool (perm_bad2 hlt H4.out).symm, (by first | with_reducible assumption | with_reducible exact hd | with_reducible exact Dr.drewN hd _ | with_reducible exact Dr.drewN (Dr.drewN hd _) _ | with_reducible exact Dr.drew hd)⟩
          · have d4 : decide (xs[k] ∈ xs.take k) = false := by simp [h4]
            have H4 := Lib.hid h4
            clear h4
            go_wp2
            go_quiet ((first | (go_at_call 48; exact quiet_eq (l1In_any _ _ _ _)) | (go_at_call 49; exact quiet_eq (l2Has_any _ _ _ (xs.take k) _ _ HLEN.out hk4 HR.out))))
            go_wp2
            go_roundw
            case rel => exact ⟨k + 1, by omega, by go_num, (perm_step hlt H1.out H2.out H3.out H4.out).1, (perm_step hlt H1.out H2.out H3.out H4.out).2, (by first | with_reducible assumption | with_reducible exact hd | with_reducible exact Dr.drewN hd _ | with_reducible exact Dr.drewN (Dr.drewN hd _) _ | with_reducible exact Dr.drew hd)⟩
            case measure => simp [intOf]; omega
        · have d3 : decide (1 ≤ xs[k] ∧ xs[k] ≤ (xs.length : Int)) = false := by rw [decide_eq_false_iff_not]; exact h3
          have H3 := Lib.hid h3
          clear h3
          go_wp2
          go_quiet ((go_at_call 48; exact quiet_eq (l1In_any _ _ _ _)))
          go_wp2
          go_ret
          exact ⟨ret_bool (perm_bad1 hlt H3.out).symm, (by first | with_reducible assumption | with_reducible exact hd | with_reducible exact Dr.drewN hd _ | with_reducible exact Dr.drewN (Dr.drewN hd _) _ | with_reducible exact Dr.drew hd)⟩
      · obtain rfl : k = xs.length := by omega
        go_wp2
        go_ret
        exact ⟨ret_bool (by rw [perm_all h8 H1.out H2.out]; simp; omega), (by first | with_reducible assumption | with_reducible exact hd | with_reducible exact Dr.drewN hd _ | with_reducible exact Dr.drewN (Dr.drewN hd _) _ | with_reducible exact Dr.drew hd)⟩

theorem infoB : (Tryz.prog.info? 4).map (fun i => (i.zero, i.size, i.bytes)) = some (some (.bool false), 1, 1) := by kernel_rfl
def seenL (xs : List Int) (k : Nat) : List Bool := (List.range (xs.length + 1)).map fun v : Nat => decide ((v : Int) ∈ xs.take k)
theorem seenL_length (xs : List Int) (k : Nat) : (seenL xs k).length = xs.length + 1 := by simp [seenL]
theorem seenL_get (xs : List Int) (k v : Nat) (h : v < (seenL xs k).length) : (seenL xs k)[v] = decide ((v : Int) ∈ xs.take k) := by simp [seenL]
theorem seenL_zero (xs : List Int) : seenL xs 0 = List.replicate (xs.length + 1) false := by
  apply List.ext_getElem
  · simp [seenL]
  · intro i h1 h2; rw [seenL_get]; simp
theorem seenL_set (xs : List Int) (k v : Nat) (hk : k < xs.length) (hv : xs[k] = (v : Int)) : (seenL xs k).set v true = seenL xs (k + 1) := by
  apply List.ext_getElem
  · simp [seenL]
  · intro i h1 h2
    rw [List.getElem_set, seenL_get _ _ _ (by rw [seenL_length] at *; exact h2), seenL_get, List.take_succ_eq_append_getElem hk, hv]
    by_cases e : v = i
    · subst e; simp
    · rw [if_neg e]
      have : ¬ (i : Int) = (v : Int) := by omega
      simp [this]
theorem made_falses {w : World} {base e n : Nat} {v : Value} (h : w.ownsRow base e 1 v n (madeCells (Value.bool false).cells (n * 1)).toList) : w.ownsRow base e 1 v n ((List.replicate n false).map Value.bool) := by
  rw [show (Value.bool false).cells = #[.bool false] from rfl, toList_madeCells_one, Nat.mul_one] at h
  simpa using h
def permL (xs : List Int) : Bool := decide ((∀ v ∈ xs, 1 ≤ v ∧ v ≤ xs.length) ∧ xs.Nodup)
theorem permB_permL (xs : List Int) (h : xs.length ≤ 8) : permL xs = permB xs := by simp [permL, permB, h]
theorem permL_bad1 {xs : List Int} {k : Nat} (hk : k < xs.length) (h3 : ¬ (1 ≤ xs[k] ∧ xs[k] ≤ xs.length)) : permL xs = false := by
  unfold permL
  rw [decide_eq_false_iff_not]
  rintro ⟨h, _⟩
  exact h3 (h _ (List.getElem_mem hk))
theorem permL_bad2 {xs : List Int} {k : Nat} (hk : k < xs.length) (h4 : xs[k] ∈ xs.take k) : permL xs = false := by
  unfold permL
  rw [decide_eq_false_iff_not]
  rintro ⟨_, h⟩
  have h' := (List.take_sublist (k + 1) xs).nodup h
  rw [List.take_succ_eq_append_getElem hk] at h'
  exact ((nodup_snoc _ _).1 h').2 h4
theorem permL_all {xs : List Int} (h1 : ∀ v ∈ xs.take xs.length, 1 ≤ v ∧ v ≤ xs.length) (h2 : (xs.take xs.length).Nodup) : permL xs = true := by
  rw [List.take_length] at h1 h2
  unfold permL
  rw [decide_eq_true_eq]
  exact ⟨h1, h2⟩

set_option maxHeartbeats 800000 in
theorem isPermL_impl (A : Option Addr) (c : Nat) (xs : List Int) (w : World) (h : In w A c xs) :
    Calls Tryz.prog 56 #[.slice A xs.length c] w (Rb w (.bool (permL xs))) := by
  obtain ⟨i0, hi, hz0, hz1, hz2⟩ := info_parts infoB
  obtain ⟨hl, _, hx⟩ := h
  go_enter Tryz.func56, Tryz.ntmps56
  go_wp2_with (at_make; refine wpList_make_full _ rfl _ _ 77 rfl (w.heap.size) 4 i0 (.bool false) 1 Tryz.underlying77 hi hz0 hz1 .i64 .i64 _ _ (xs.length + 1) rfl rfl (by omega) (by omega) (by rw [hz2]; omega) (by unfold maxLen; omega) (by omega) ?_; intro w1 hown1 hgrow1)
  have hown := made_falses hown1
  rw [← seenL_zero] at hown
  have hb := below_none hgrow1
  clear hown1 hgrow1
  go_wp2
  go_loopw [12] (fun i wr => ∃ k : Nat, k ≤ xs.length ∧ i = .int .i64 k ∧ (∀ v ∈ xs.take k, 1 ≤ v ∧ v ≤ xs.length) ∧ (xs.take k).Nodup ∧ wr.ownsRow w.heap.size 4 1 (.slice (some ⟨w.heap.size, 0, none⟩) (xs.length + 1) (xs.length + 1)) (xs.length + 1) ((seenL xs k).map Value.bool) ∧ Below w.heap.size w wr) (fun i _ => xs.length - (intOf i).toNat)
  case atStart => exact ⟨0, Nat.zero_le _, rfl, by simp, by simp, hown, hb⟩
  case round =>
    clear hown hb
    obtain ⟨k, hk, rfl, h1, h2, hown, hb⟩ := hrel
    have H1 := Lib.hid h1
    have H2 := Lib.hid h2
    have HX := Lib.hid (hx.below hb)
    clear h1 h2
    rcases Nat.lt_or_ge k xs.length with hlt | hge
    · obtain ⟨b, off, rfl, hbb, hc⟩ := HX.out (by omega)
      have c1 := hc k hlt
      clear hc
      by_cases h3 : 1 ≤ xs[k] ∧ xs[k] ≤ xs.length
      · obtain ⟨v, hv⟩ := Int.eq_ofNat_of_zero_le (show 0 ≤ xs[k] by omega)
        have H3 := Lib.hid h3
        have hvl : v < (seenL xs k).length := by rw [seenL_length]; omega
        have hv1 : 1 ≤ v := by omega
        have hv2 : v ≤ xs.length := by omega
        have HS := Lib.hid (seenL_set xs k v hlt hv)
        rw [hv] at c1
        obtain ⟨p1, p2, p3⟩ := own_putB hown v hvl true
        rw [seenL_get] at p1
        have HV := Lib.hid hv
        clear h3 hv
        by_cases h4 : (v : Int) ∈ xs.take k
        · rw [decide_eq_true h4] at p1
          have H4 := Lib.hid h4
          clear h4 p3 hown hvl
          go_wp2
          go_ret
          exact ⟨ret_bool (permL_bad2 hlt (by rw [HV.out]; exact H4.out)).symm, hb⟩
        · rw [decide_eq_false h4] at p1
          have H4 := Lib.hid h4
          have P3 := Lib.hid p3
          have B2 := Lib.hid (hb.setCell (p := ⟨w.heap.size, v, none⟩) (Nat.le_refl _) (.bool true))
          clear h4 p3 hown hvl hb
          go_wp2
          go_roundw
          case rel => exact ⟨k + 1, by omega, by go_num, (perm_step hlt H1.out H2.out H3.out (by rw [HV.out]; exact H4.out)).1, (perm_step hlt H1.out H2.out H3.out (by rw [HV.out]; exact H4.out)).2, by rw [← HS.out]; exact P3.out, B2.out⟩
          case measure => simp [intOf]; omega
      · have H3 := Lib.hid h3
        by_cases h5 : xs[k] < 1
        · clear h3
          go_wp2
          go_ret
          exact ⟨ret_bool (permL_bad1 hlt H3.out).symm, hb⟩
        · have h6 : (xs.length : Int) < xs[k] := by omega
          clear h3
          go_wp2
          go_ret
          exact ⟨ret_bool (permL_bad1 hlt H3.out).symm, hb⟩
    · obtain rfl : k = xs.length := by omega
      go_wp2
      go_ret
      exact ⟨ret_bool (permL_all H1.out H2.out).symm, hb⟩

set_option maxHeartbeats 400000 in
theorem isPerm_impl (A : Option Addr) (c : Nat) (xs : List Int) (w : World) (h : In w A c xs) :
    Calls Tryz.prog 28 #[.slice A xs.length c] w (Rb w (.bool (permB xs))) := by
  have hl := h.len
  rcases Nat.lt_or_ge 8 xs.length with h8 | h8
  · have HP := Lib.hid (show permB xs = false by unfold permB; rw [decide_eq_false_iff_not]; omega)
    have hd8 : decide ((xs.length : Int) ≤ 8) = false := by simp; omega
    go_enter Tryz.func28, Tryz.ntmps28
    go_wp2_with fail
    go_ret
    exact ⟨ret_bool HP.out.symm, Below.refl _ _⟩
  · have HP := Lib.hid (permB_permL xs h8)
    have hd8 : decide ((xs.length : Int) ≤ 8) = true := by simp; omega
    go_enter Tryz.func28, Tryz.ntmps28
    go_wp2_with fail
    refine (isPermL_impl _ _ _ _ h).mono ?_
    rintro e w1 ⟨rfl, hb⟩
    go_wp2_with fail
    go_ret
    exact ⟨ret_bool HP.out, hb⟩
end Go.Proofs.YtldknpjeegdbmaaGreat

/- Contracts of the statistics that list places: listed and its closures; DescentsOf, LowsOf, RecordsOf, CountFixed, CountRises, MajorOf; program. -/
namespace Go.Proofs.YtldknpjeegdbmaaGreat
set_option maxRecDepth 100000
open Go Go.RowKit

/-- The places, counted from 1, of which H holds, of the first n. -/
def placesL (H : Nat → Bool) (n : Nat) : List Int := ((List.range n).filter H).map fun i : Nat => (i : Int) + 1
theorem placesL_succ (H : Nat → Bool) (n : Nat) : placesL H (n + 1) = if H n then placesL H n ++ [(n : Int) + 1] else placesL H n := by
  unfold placesL
  rw [List.range_succ, List.filter_append]
  by_cases h : H n <;> simp [h]
theorem placesL_length (H : Nat → Bool) (n : Nat) : (placesL H n).length ≤ n := by
  unfold placesL
  rw [List.length_map]
  exact Nat.le_trans (List.length_filter_le _ _) (by simp)
theorem placesL_congr {H K : Nat → Bool} {n : Nat} (h : ∀ i, i < n → H i = K i) : placesL H n = placesL K n := by
  unfold placesL
  congr 1
  exact List.filter_congr fun x hx => h x (List.mem_range.1 hx)

def listG (xs : List Int) (H : Nat → Bool) : List Int := if permB xs = true then placesL H xs.length else []
theorem listG_length (xs : List Int) (H : Nat → Bool) : (listG xs H).length ≤ 8 := by
  unfold listG
  split
  · rename_i h
    have := placesL_length H xs.length
    have := (permB_true h).1
    omega
  · simp


theorem alloc_cell (w : World) (v : Value) (t : TypeId) : (w.alloc (.cells #[v] t)).cell? ⟨w.heap.size, 0, none⟩ = some v := by
  rw [World.cell?_alloc_at _ _ _ _ rfl]; rfl

/-- The captured slice and what it reads as, in a later world. -/
theorem cap_in {w w0 w' : World} {A : Option Addr} {c : Nat} {xs : List Int} {t : TypeId} (h : In w A c xs) (e : w0 = w.alloc (.cells #[.slice A xs.length c] t)) (hb : Below w0.heap.size w0 w') :
    In w' A c xs ∧ w'.cell? ⟨w.heap.size, 0, none⟩ = some (.slice A xs.length c) := by
  subst e
  have h1 : In (w.alloc (.cells #[.slice A xs.length c] t)) A c xs := h.next ((Below.refl _ _).alloc (Nat.le_refl _) _)
  exact ⟨h1.next hb, by rw [hb.cell (p := ⟨w.heap.size, 0, none⟩) (by simp)]; exact alloc_cell _ _ _⟩

end Go.Proofs.YtldknpjeegdbmaaGreat

/- Contracts of LowsOf, RecordsOf, CountFixed, CountRises, MajorOf, inversions; program. -/
namespace Go.Proofs.YtldknpjeegdbmaaGreat
set_option maxRecDepth 100000
open Go Go.RowKit







def countG (xs : List Int) (H : Nat → Bool) : Int := if permB xs = true then ((placesL H xs.length).length : Int) else -1



end Go.Proofs.YtldknpjeegdbmaaGreat

/- Contracts of small list functions of Go's library and of the reference: Equal, l2Same, Clone, Index, Contains, identity, the patterns. -/
namespace Go.Proofs.YtldknpjeegdbmaaGreat
set_option maxRecDepth 100000
open Go Go.RowKit

/-! append of a list that is read, nil or not, onto a row of the call's own (after the guide's page of words) -/
section
variable {P : Program} (w : World)
theorem run_append_of_nil (base : Nat) (t ty e : TypeId) (i : TypeInfo) (ht : P.underlying t = some (.slice e)) (hi : P.info? e = some i)
    (v : Value) (n : Nat) (xs : List Value) (hown : w.ownsRow base e 1 v n xs) (c : Nat) : (Builtin.append_ #[t, t] ty #[v, .slice none 0 c]).run P w = .ok v w := by
  rcases hown.2 with ⟨rfl, rfl⟩ | ⟨g, cap, cur, rfl, _, _, hnc, _⟩
  · simp [Builtin.append_, run_underlying ht, sizeOf, typeInfo, hi, Builtin.lenOf, Builtin.firstCells]
  · simp [Builtin.append_, run_underlying ht, sizeOf, typeInfo, hi, Builtin.lenOf, Builtin.firstCells, hnc, storeCells]
theorem run_append_rd {α : Type} {f : α → Value} (base : Nat) (t ty e : TypeId) (i : TypeInfo) (z : Value) (bytes : Nat) (ht : P.underlying t = some (.slice e)) (hi : P.info? e = some i) (hz : i.zero = some z)
    (hsize : i.size = 1) (hby : i.bytes = bytes) (hzs : z.cells.size = 1)
    (v : Value) (n : Nat) (xs : List Value) (hown : w.ownsRow base e 1 v n xs)
    (B : Nat) (A : Option Addr) (c m : Nat) (ys : List α) (hm : ys.length = m) (hr : Rd f w B A ys) (h1 : ∀ y, (f y).oneCell' = true)
    (h63 : n + m ≤ maxLen) (hbytes : (n + m) * bytes ≤ 140737488355328) (hbase : base ≤ w.heap.size) :
    ∃ v' w', (Builtin.append_ #[t, t] ty #[v, .slice A m c]).run P w = .ok v' w' ∧ w'.ownsRow base e 1 v' (n + m) (xs ++ ys.map f) ∧ w.grownBy w' v.ownBlock := by
  subst hm
  rcases Nat.eq_zero_or_pos ys.length with h0 | h0
  · have hy : ys = [] := List.eq_nil_of_length_eq_zero h0
    subst hy
    cases A with
    | none => exact ⟨v, w, run_append_of_nil w base t ty e i ht hi v n xs hown c, by simpa using hown, World.grownBy.refl w _⟩
    | some ad =>
      obtain ⟨v', w', hrun, h2, h3, _⟩ := run_append_own (P := P) w base t ty e i z 1 bytes ht hi hz hsize hby hzs (by omega) v n xs hown ad 0 c [] rfl (by intro j u h; simp at h) (by simp) (by simpa using h63) (by simpa using hbytes) hbase
      exact ⟨v', w', hrun, by simpa using h2, h3⟩
  · obtain ⟨b, off, rfl, _, hc⟩ := hr h0
    obtain ⟨v', w', hrun, h2, h3, _⟩ := run_append_own (P := P) w base t ty e i z 1 bytes ht hi hz hsize hby hzs (by omega) v n xs hown ⟨b, off, none⟩ ys.length c (ys.map f) (by simp) (fun j u hu => by
      rw [List.getElem?_map] at hu
      obtain ⟨y, hy, rfl⟩ := Option.map_eq_some_iff.1 hu
      obtain ⟨hj, rfl⟩ := List.getElem?_eq_some_iff.1 hy
      rw [Addr.add_lit]
      exact hc j hj) (by intro u hu; obtain ⟨y, _, rfl⟩ := List.mem_map.1 hu; exact h1 y) h63 hbytes hbase
    exact ⟨v', w', hrun, h2, h3⟩
theorem wpList_append_rd {α : Type} {f : α → Value} {ops : Array Oper} {rest : List Oper} {o : Oper} {a : Act} {Q : Exit → Act → World → Prop} (hgd : o.guard = none) (s x : Operand) (t : TypeId)
    (ho : o.op = .call { callee := .builtin .append, args := #[s, x], argTypes := #[t, t] })
    (base : Nat) (e : TypeId) (i : TypeInfo) (z : Value) (bytes : Nat) (ht : P.underlying t = some (.slice e)) (hi : P.info? e = some i) (hz : i.zero = some z)
    (hsize : i.size = 1) (hby : i.bytes = bytes) (hzs : z.cells.size = 1)
    (v : Value) (n : Nat) (xs : List Value) (hs : a.eval s = v) (hown : w.ownsRow base e 1 v n xs)
    (B : Nat) (A : Option Addr) (c m : Nat) (ys : List α) (hx : a.eval x = .slice A m c) (hm : ys.length = m) (hr : Rd f w B A ys) (h1 : ∀ y, (f y).oneCell' = true)
    (h63 : n + m ≤ maxLen) (hbytes : (n + m) * bytes ≤ 140737488355328) (hbase : base ≤ w.heap.size)
    (h : ∀ v' w', w'.ownsRow base e 1 v' (n + m) (xs ++ ys.map f) → w.grownBy w' v.ownBlock → wpList P ops Q rest (a.put o.dst v') w') : wpList P ops Q (o :: rest) a w := by
  refine wpList_plain hgd fun K hK => ?_
  obtain ⟨v', w', hr2, h2, h3⟩ := run_append_rd (P := P) w base t o.type e i z bytes ht hi hz hsize hby hzs v n xs hown B A c m ys hm hr h1 h63 hbytes hbase
  unfold Oper.wp execOp
  simp only [ho, resolve, invoke, builtin, Sem.run_bind, Sem.run_pure, Result.andThen_ok, List.map_toArray, List.map_cons, List.map_nil, hs, hx, hr2]
  exact hK _ _ (h v' w' h2 h3)
end

set_option maxHeartbeats 400000 in
theorem equal_any (A A' : Option Addr) (c c' n m : Nat) (xs ys : List Int) (w : World) (hn : xs.length = n) (hm : ys.length = m) (hl : n ≤ 4611686018427387904)
    (hx : Rd (Value.int .i64) w w.heap.size A xs) (hy : Rd (Value.int .i64) w w.heap.size A' ys) :
    Calls Tryz.prog 36 #[.slice A n c, .slice A' m c'] w (Rq w (.bool (decide (xs = ys)))) := by
  subst hn hm
  by_cases hne : xs.length = ys.length
  · go_enter Tryz.func36, Tryz.ntmps36
    have hb : ((xs.length : Int) != (ys.length : Int)) = false := by simp [hne]
    go_wp2
    go_loopw [13] (fun i wr => ∃ k : Nat, k ≤ xs.length ∧ i = .int .i64 k ∧ xs.take k = ys.take k ∧ Dr w wr) (fun i _ => xs.length - (intOf i).toNat)
    case atStart => exact ⟨0, Nat.zero_le _, rfl, rfl, Dr.refl _⟩
    case round =>
      obtain ⟨k, hk, rfl, ht, n, rfl⟩ := hrel
      rcases Nat.lt_or_ge k xs.length with hlt | hge
      · obtain ⟨b, off, rfl, hbb, hcx⟩ := hx (by omega)
        obtain ⟨b', off', rfl, hbb', hcy⟩ := hy (by omega)
        have hk2 : k < ys.length := by omega
        have hcxk := hcx k hlt
        have hcyk := hcy k hk2
        have hT := Lib.hid ht
        clear ht hcx hcy hne
        by_cases hd : xs[k] = ys[k]
        · have hdd : (xs[k] != ys[k]) = false := by simp [hd]
          have hD := Lib.hid hd
          clear hd
          go_wp2
          go_quiet (fail)
          go_wp2
          go_roundw
          case rel => exact ⟨k + 1, by omega, by go_num, by rw [List.take_succ_eq_append_getElem hlt, List.take_succ_eq_append_getElem hk2, hT.out, hD.out], (by first | with_reducible exact Dr.of _ _ | with_reducible exact Dr.of2 _ _ _ | with_reducible exact Dr.refl _ | with_reducible exact Dr.of3 _ _ _)⟩
          case measure => simp [intOf]; omega
        · have hdd : (xs[k] != ys[k]) = true := by simp [hd]
          have hD := Lib.hid hd
          clear hd
          go_wp2
          go_quiet (fail)
          go_wp2
          go_ret
          exact ⟨ret_bool (by symm; rw [decide_eq_false_iff_not]; intro h; exact hD.out (by simp [h])), (by first | with_reducible exact Dr.of _ _ | with_reducible exact Dr.of2 _ _ _ | with_reducible exact Dr.refl _ | with_reducible exact Dr.of3 _ _ _)⟩
      · have hT := Lib.hid ht
        clear ht
        go_wp2
        go_ret
        exact ⟨ret_bool (by symm; rw [decide_eq_true_eq]; have := hT.out; rwa [List.take_of_length_le hge, List.take_of_length_le (by omega)] at this), (by first | with_reducible exact Dr.of _ _ | with_reducible exact Dr.of2 _ _ _ | with_reducible exact Dr.refl _ | with_reducible exact Dr.of3 _ _ _)⟩
  · have hb : ((xs.length : Int) != (ys.length : Int)) = true := by simp; omega
    go_enter Tryz.func36, Tryz.ntmps36
    go_wp2
    go_ret
    exact ⟨ret_bool (by symm; rw [decide_eq_false_iff_not]; intro h; exact hne (by rw [h])), Dr.refl _⟩

set_option maxHeartbeats 400000 in
theorem l2Same_any (A A' : Option Addr) (c c' n m : Nat) (xs ys : List Int) (w : World) (hn : xs.length = n) (hm : ys.length = m) (hl : n ≤ 4611686018427387904)
    (hx : Rd (Value.int .i64) w w.heap.size A xs) (hy : Rd (Value.int .i64) w w.heap.size A' ys) :
    Calls Tryz.prog 34 #[.slice A n c, .slice A' m c'] w (Rq w (.bool (decide (xs = ys)))) := by
  subst hn hm
  by_cases hne : xs.length = ys.length
  · go_enter Tryz.func34, Tryz.ntmps34
    have hb : ((xs.length : Int) != (ys.length : Int)) = false := by simp [hne]
    go_wp2
    go_loopw [5] (fun i wr => ∃ k : Nat, k ≤ xs.length ∧ i = .int .i64 k ∧ xs.take k = ys.take k ∧ Dr w wr) (fun i _ => xs.length - (intOf i).toNat)
    case atStart => exact ⟨0, Nat.zero_le _, rfl, rfl, Dr.refl _⟩
    case round =>
      obtain ⟨k, hk, rfl, ht, n, rfl⟩ := hrel
      rcases Nat.lt_or_ge k xs.length with hlt | hge
      · obtain ⟨b, off, rfl, hbb, hcx⟩ := hx (by omega)
        obtain ⟨b', off', rfl, hbb', hcy⟩ := hy (by omega)
        have hk2 : k < ys.length := by omega
        have hcxk := hcx k hlt
        have hcyk := hcy k hk2
        have hT := Lib.hid ht
        clear ht hcx hcy hne
        by_cases hd : xs[k] = ys[k]
        · have hdd : (xs[k] != ys[k]) = false := by simp [hd]
          have hD := Lib.hid hd
          clear hd
          go_wp2
          go_quiet (fail)
          go_wp2
          go_roundw
          case rel => exact ⟨k + 1, by omega, by go_num, by rw [List.take_succ_eq_append_getElem hlt, List.take_succ_eq_append_getElem hk2, hT.out, hD.out], (by first | with_reducible exact Dr.of _ _ | with_reducible exact Dr.of2 _ _ _ | with_reducible exact Dr.refl _ | with_reducible exact Dr.of3 _ _ _)⟩
          case measure => simp [intOf]; omega
        · have hdd : (xs[k] != ys[k]) = true := by simp [hd]
          have hD := Lib.hid hd
          clear hd
          go_wp2
          go_quiet (fail)
          go_wp2
          go_ret
          exact ⟨ret_bool (by symm; rw [decide_eq_false_iff_not]; intro h; exact hD.out (by simp [h])), (by first | with_reducible exact Dr.of _ _ | with_reducible exact Dr.of2 _ _ _ | with_reducible exact Dr.refl _ | with_reducible exact Dr.of3 _ _ _)⟩
      · have hT := Lib.hid ht
        clear ht
        go_wp2
        go_ret
        exact ⟨ret_bool (by symm; rw [decide_eq_true_eq]; have := hT.out; rwa [List.take_of_length_le hge, List.take_of_length_le (by omega)] at this), (by first | with_reducible exact Dr.of _ _ | with_reducible exact Dr.of2 _ _ _ | with_reducible exact Dr.refl _ | with_reducible exact Dr.of3 _ _ _)⟩
  · have hb : ((xs.length : Int) != (ys.length : Int)) = true := by simp; omega
    go_enter Tryz.func34, Tryz.ntmps34
    go_wp2
    go_ret
    exact ⟨ret_bool (by symm; rw [decide_eq_false_iff_not]; intro h; exact hne (by rw [h])), Dr.refl _⟩

theorem equal_b (A A' : Option Addr) (c c' n m : Nat) (xs ys : List Int) (w : World) (b : Bool) (hn : xs.length = n) (hm : ys.length = m) (hl : n ≤ 4611686018427387904)
    (hx : Rd (Value.int .i64) w w.heap.size A xs) (hy : Rd (Value.int .i64) w w.heap.size A' ys) (hb : decide (xs = ys) = b) :
    Calls Tryz.prog 36 #[.slice A n c, .slice A' m c'] w (Rq w (.bool b)) := by
  subst hb
  exact equal_any A A' c c' n m xs ys w hn hm hl hx hy

theorem l2Same_b (A A' : Option Addr) (c c' n m : Nat) (xs ys : List Int) (w : World) (b : Bool) (hn : xs.length = n) (hm : ys.length = m) (hl : n ≤ 4611686018427387904)
    (hx : Rd (Value.int .i64) w w.heap.size A xs) (hy : Rd (Value.int .i64) w w.heap.size A' ys) (hb : decide (xs = ys) = b) :
    Calls Tryz.prog 34 #[.slice A n c, .slice A' m c'] w (Rq w (.bool b)) := by
  subst hb
  exact l2Same_any A A' c c' n m xs ys w hn hm hl hx hy

set_option maxHeartbeats 400000 in
theorem clone_any (A : Option Addr) (c : Nat) (xs : List Int) (w : World) (h : In w A c xs) :
    Calls Tryz.prog 73 #[.slice A xs.length c] w (Ret (Value.int .i64) 3 w xs) := by
  obtain ⟨i0, hi, hz0, hz1, hz2⟩ := info_parts infoI
  obtain ⟨hl, hcap, hx⟩ := h
  have hnil := fun (w : World) (a : Option Addr) (l c : Nat) => Lib.run_eql_slice_nil (P := Tryz.prog) w 24 3 a l c 0 0 Tryz.underlying24
  cases A with
  | none =>
    have hx0 : xs = [] := by
      rcases Nat.eq_zero_or_pos xs.length with h0 | h0
      · exact List.eq_nil_of_length_eq_zero h0
      · obtain ⟨b, off, he, _⟩ := hx h0
        cases he
    subst hx0
    go_enter Tryz.func73, Tryz.ntmps73
    go_wp2
    go_ret
    exact ⟨none, 0, rfl, Nat.le_refl _, Nat.zero_le _, World.ownsRow_nil _ _ _ _, Below.refl _ _⟩
  | some ad =>
    have hown0 : (w.alloc (.cells #[] 3)).ownsRow w.heap.size 3 1 (.slice (some ⟨w.heap.size, 0, none⟩) 0 0) 0 [] := World.ownsRow_lit w #[] 0 (Nat.le_refl _) (by unfold maxLen; omega) rfl
    have hb0 := (Below.refl w.heap.size w).alloc (Nat.le_refl _) (.cells #[] 3)
    have hx0 := hx.alloc (Nat.le_refl _) (.cells #[] 3)
    go_enter Tryz.func73, Tryz.ntmps73
    go_wp2_with (at_builtin; refine wpList_append_rd _ rfl _ _ 24 rfl (w.heap.size) 3 i0 (.int .i64 0) 8 Tryz.underlying24 hi hz0 hz1 hz2 rfl _ _ _ rfl hown0 _ _ _ _ (xs) rfl rfl hx0 (fun _ => rfl) (by unfold maxLen; omega) (by omega) (by first | omega | (simp; done) | (simp; omega)) ?_; intro v1 w1 hown1 hgrow1)
    have hb1 := hb0.grown hgrow1 (by simp) (by intro g hg; exact (hown0.lt g hg).1)
    simp only [Nat.zero_add, List.nil_append] at hown1
    obtain ⟨A1, c1, rfl, q1, q2⟩ := own_shape hown1
    go_wp2
    go_ret
    exact ⟨A1, c1, rfl, q1, q2, hown1, hb1⟩




/-- The pattern of a list: each element's place among all. -/
def belowN (xs : List Int) (x : Int) : Nat := (xs.filter fun y => decide (y < x)).length
def patL (xs : List Int) : List Int := xs.map fun x => (belowN xs x : Int) + 1
theorem patL_length (xs : List Int) : (patL xs).length = xs.length := by simp [patL]
theorem belowN_le (xs : List Int) (x : Int) : belowN xs x ≤ xs.length := List.length_filter_le _ _
theorem belowN_snoc (xs : List Int) (x : Int) (k : Nat) (h : k < xs.length) : belowN (xs.take (k + 1)) x = belowN (xs.take k) x + (if xs[k] < x then 1 else 0) := by
  unfold belowN
  rw [List.take_succ_eq_append_getElem h, List.filter_append, List.length_append]
  congr 1
  by_cases hp : xs[k] < x <;> simp [hp]

theorem l1Bit_q (b : Bool) (w : World) : Calls Tryz.prog 52 #[.bool b] w fun e w' => e = .returned (.int .i64 (if b = true then 1 else 0)) ∧ w = w' := by
  cases b
  · go_enter Tryz.func52, Tryz.ntmps52
    go_wp2
    go_ret
    exact ⟨rfl, rfl⟩
  · go_enter Tryz.func52, Tryz.ntmps52
    go_wp2
    go_ret
    exact ⟨rfl, rfl⟩

set_option maxHeartbeats 1000000 in
theorem pattern_impl (A : Option Addr) (c n : Nat) (xs : List Int) (w : World) (hn : xs.length = n) (hl : n ≤ 1048576) (hx : Rd (Value.int .i64) w w.heap.size A xs) :
    Calls Tryz.prog 61 #[.slice A n c] w (Ret (Value.int .i64) 3 w (patL xs)) := by
  subst hn
  obtain ⟨i0, hi, hz0, hz1, hz2⟩ := info_parts infoI
  go_enter Tryz.func61, Tryz.ntmps61
  go_wp2
  have hown0 : (w.alloc (.cells #[] 3)).ownsRow w.heap.size 3 1 (.slice (some ⟨w.heap.size, 0, none⟩) 0 0) 0 (((xs.take 0).map fun x => (belowN xs x : Int) + 1).map (Value.int .i64)) := World.ownsRow_lit w #[] 0 (Nat.le_refl _) (by unfold maxLen; omega) rfl
  have hb0 := (Below.refl w.heap.size w).alloc (Nat.le_refl _) (.cells #[] 3)
  go_loopw [3, 12] (fun v i wr => ∃ (k : Nat) (A' : Option Addr) (c' : Nat), k ≤ xs.length ∧ i = .int .i64 k ∧ v = .slice A' k c' ∧ wr.ownsRow w.heap.size 3 1 (.slice A' k c') k (((xs.take k).map fun x => (belowN xs x : Int) + 1).map (Value.int .i64)) ∧ Below w.heap.size w wr) (fun _ i _ => xs.length - (intOf i).toNat)
  case atStart => exact ⟨0, _, _, Nat.zero_le _, rfl, rfl, hown0, hb0⟩
  case round =>
    clear hown0 hb0
    obtain ⟨k, A', c', hk, rfl, rfl, hown, hb⟩ := hrel
    obtain ⟨wo, rfl⟩ : ∃ wo : World, wo = wr := ⟨_, rfl⟩
    rcases Nat.lt_or_ge k xs.length with hlt | hge
    · obtain ⟨b, off, rfl, hbb, hc⟩ := hx.below hb (by omega)
      have HC := Lib.hid hc
      have ck := hc k hlt
      have HS := Lib.hid (show (xs.take (k + 1)).map (fun x => (belowN xs x : Int) + 1) = (xs.take k).map (fun x => (belowN xs x : Int) + 1) ++ [(belowN xs xs[k] : Int) + 1] by rw [List.take_succ_eq_append_getElem hlt, List.map_append]; rfl)
      clear hc
      go_wp2
      go_loopw [6, 18] (fun s i wr => ∃ (j F : Nat), j ≤ xs.length ∧ belowN (xs.take j) xs[k] = F ∧ F ≤ j ∧ i = .int .i64 j ∧ s = .int .i64 ((F : Int) + 1) ∧ Dr wo wr) (fun _ i _ => xs.length - (intOf i).toNat)
      case atStart => exact ⟨0, 0, Nat.zero_le _, rfl, Nat.le_refl _, rfl, rfl, Dr.refl _⟩
      case round =>
        obtain ⟨j, F, hj, hF, hFj, rfl, rfl, hd⟩ := hrel
        have HF := Lib.hid hF
        clear hF
        rcases Nat.lt_or_ge j xs.length with hlt2 | hge2
        · have c1 : wr.cell? ⟨b, off + k, none⟩ = some (.int .i64 xs[k]) := (hd.cell _).trans ck
          have c2 : wr.cell? ⟨b, off + j, none⟩ = some (.int .i64 xs[j]) := (hd.cell _).trans (HC.out j hlt2)
          have HB := Lib.hid (belowN_snoc xs xs[k] j hlt2)
          have e1 : IntKind.i64.wrap ((F : Int) + 1 + 1) = (F : Int) + 1 + 1 := IntWalk.i64_in _ (by omega)
          have e2 : IntKind.i64.wrap ((F : Int) + 1) = (F : Int) + 1 := IntWalk.i64_in _ (by omega)
          by_cases hy : xs[j] < xs[k]
          · have HS2 := Lib.hid (show belowN (xs.take (j + 1)) xs[k] = F + 1 by rw [HB.out, if_pos hy, HF.out])
            go_wp2
            go_roundw
            case rel => exact ⟨j + 1, F + 1, by omega, HS2.out, by omega, by go_num, by go_num, (by first | with_reducible assumption | with_reducible exact hd | with_reducible exact Dr.drewN hd _ | with_reducible exact Dr.drewN (Dr.drewN hd _) _ | with_reducible exact Dr.drew hd)⟩
            case measure => simp [intOf]; omega
          · have HS2 := Lib.hid (show belowN (xs.take (j + 1)) xs[k] = F by rw [HB.out, if_neg hy, HF.out]; rfl)
            go_wp2
            go_roundw
            case rel => exact ⟨j + 1, F, by omega, HS2.out, by omega, by go_num, by go_num, (by first | with_reducible assumption | with_reducible exact hd | with_reducible exact Dr.drewN hd _ | with_reducible exact Dr.drewN (Dr.drewN hd _) _ | with_reducible exact Dr.drew hd)⟩
            case measure => simp [intOf]; omega
        · obtain rfl : j = xs.length := by omega
          have HV := Lib.hid (show belowN xs xs[k] = F by have := HF.out; rwa [List.take_length] at this)
          have hown := hd.own hown
          have hb := below_dr hb hd
          have hsz : w.heap.size ≤ wr.heap.size := hb.size
          go_wp2_with (at_builtin; refine wpList_append_own _ rfl _ _ 24 rfl (w.heap.size) 3 i0 (.int .i64 0) 1 8 Tryz.underlying24 hi hz0 hz1 hz2 rfl (by decide) _ _ _ rfl (World.ownsRow.alloc hown _) ⟨wr.heap.size, 0, none⟩ 1 1 [.int .i64 ((F : Int) + 1)] rfl rfl (cell_one_new _ _ _) (by intro u hu; simp at hu; subst hu; rfl) (by unfold maxLen; omega) (by omega) (by simp; omega) ?_; intro v1 w1 hown1 hgrow1 _)
          have hb1 := (hb.alloc hsz (Obj.cells #[Value.int .i64 ((F : Int) + 1)] 3)).grown hgrow1 (by simp; omega) (by intro g hg; exact ((hown.lt g hg).1))
          have hS2 : w1.ownsRow w.heap.size 3 1 v1 (k + 1) (((xs.take (k + 1)).map fun x => (belowN xs x : Int) + 1).map (Value.int .i64)) := by rw [HS.out, HV.out]; simpa using hown1
          obtain ⟨A1, cc, rfl, _, _⟩ := own_shape hS2
          have hH1 := Lib.hid hS2
          have hH2 := Lib.hid hb1
          clear hS2 hown1 hgrow1 hb1 hown hb
          go_wp2
          go_roundw
          case rel => exact ⟨k + 1, A1, cc, by omega, by go_num, rfl, hH1.out, hH2.out⟩
          case measure => simp [intOf]; omega
    · obtain rfl : k = xs.length := by omega
      rw [List.take_length] at hown
      go_wp2
      go_ret
      exact ⟨A', c', by rw [patL_length]; rfl, by rw [patL_length]; exact (own_caps hown).1, (own_caps hown).2, by rw [patL_length]; exact hown, hb⟩

set_option maxHeartbeats 1000000 in
theorem pattern_spec (A : Option Addr) (c n : Nat) (xs : List Int) (w : World) (hn : xs.length = n) (hl : n ≤ 1048576) (hx : Rd (Value.int .i64) w w.heap.size A xs) :
    Calls Tryz.prog 66 #[.slice A n c] w (Ret (Value.int .i64) 3 w (patL xs)) := by
  subst hn
  obtain ⟨i0, hi, hz0, hz1, hz2⟩ := info_parts infoI
  go_enter Tryz.func66, Tryz.ntmps66
  go_wp2
  have hown0 : (w.alloc (.cells #[] 3)).ownsRow w.heap.size 3 1 (.slice (some ⟨w.heap.size, 0, none⟩) 0 0) 0 (((xs.take 0).map fun x => (belowN xs x : Int) + 1).map (Value.int .i64)) := World.ownsRow_lit w #[] 0 (Nat.le_refl _) (by unfold maxLen; omega) rfl
  have hb0 := (Below.refl w.heap.size w).alloc (Nat.le_refl _) (.cells #[] 3)
  go_loopw [3, 4] (fun v i wr => ∃ (k : Nat) (A' : Option Addr) (c' : Nat), k ≤ xs.length ∧ i = .int .i64 k ∧ v = .slice A' k c' ∧ wr.ownsRow w.heap.size 3 1 (.slice A' k c') k (((xs.take k).map fun x => (belowN xs x : Int) + 1).map (Value.int .i64)) ∧ Below w.heap.size w wr) (fun _ i _ => xs.length - (intOf i).toNat)
  case atStart => exact ⟨0, _, _, Nat.zero_le _, rfl, rfl, hown0, hb0⟩
  case round =>
    clear hown0 hb0
    obtain ⟨k, A', c', hk, rfl, rfl, hown, hb⟩ := hrel
    obtain ⟨wo, rfl⟩ : ∃ wo : World, wo = wr := ⟨_, rfl⟩
    rcases Nat.lt_or_ge k xs.length with hlt | hge
    · obtain ⟨b, off, rfl, hbb, hc⟩ := hx.below hb (by omega)
      have HC := Lib.hid hc
      have ck := hc k hlt
      have HS := Lib.hid (show (xs.take (k + 1)).map (fun x => (belowN xs x : Int) + 1) = (xs.take k).map (fun x => (belowN xs x : Int) + 1) ++ [(belowN xs xs[k] : Int) + 1] by rw [List.take_succ_eq_append_getElem hlt, List.map_append]; rfl)
      clear hc
      go_wp2
      go_loopw [5, 6] (fun s i wr => ∃ (j F : Nat), j ≤ xs.length ∧ belowN (xs.take j) xs[k] = F ∧ F ≤ j ∧ i = .int .i64 j ∧ s = .int .i64 ((F : Int) + 1) ∧ Dr wo wr) (fun _ i _ => xs.length - (intOf i).toNat)
      case atStart => exact ⟨0, 0, Nat.zero_le _, rfl, Nat.le_refl _, rfl, rfl, Dr.refl _⟩
      case round =>
        obtain ⟨j, F, hj, hF, hFj, rfl, rfl, hd⟩ := hrel
        have HF := Lib.hid hF
        clear hF
        rcases Nat.lt_or_ge j xs.length with hlt2 | hge2
        · have c1 : wr.cell? ⟨b, off + k, none⟩ = some (.int .i64 xs[k]) := (hd.cell _).trans ck
          have c2 : wr.cell? ⟨b, off + j, none⟩ = some (.int .i64 xs[j]) := (hd.cell _).trans (HC.out j hlt2)
          have HB := Lib.hid (belowN_snoc xs xs[k] j hlt2)
          have e1 : IntKind.i64.wrap ((F : Int) + 1 + 1) = (F : Int) + 1 + 1 := IntWalk.i64_in _ (by omega)
          have e2 : IntKind.i64.wrap ((F : Int) + 1) = (F : Int) + 1 := IntWalk.i64_in _ (by omega)
          by_cases hy : xs[j] < xs[k]
          · have HS2 := Lib.hid (show belowN (xs.take (j + 1)) xs[k] = F + 1 by rw [HB.out, if_pos hy, HF.out])
            go_wp2
            go_quiet ((go_at_call 52; exact quiet_eq (l1Bit_q _ _)))
            go_wp2
            go_roundw
            case rel => exact ⟨j + 1, F + 1, by omega, HS2.out, by omega, by go_num, by go_num, (by first | with_reducible assumption | with_reducible exact hd | with_reducible exact Dr.drewN hd _ | with_reducible exact Dr.drewN (Dr.drewN hd _) _ | with_reducible exact Dr.drew hd)⟩
            case measure => simp [intOf]; omega
          · have HS2 := Lib.hid (show belowN (xs.take (j + 1)) xs[k] = F by rw [HB.out, if_neg hy, HF.out]; rfl)
            go_wp2
            go_quiet ((go_at_call 52; exact quiet_eq (l1Bit_q _ _)))
            go_wp2
            go_roundw
            case rel => exact ⟨j + 1, F, by omega, HS2.out, by omega, by go_num, by go_num, (by first | with_reducible assumption | with_reducible exact hd | with_reducible exact Dr.drewN hd _ | with_reducible exact Dr.drewN (Dr.drewN hd _) _ | with_reducible exact Dr.drew hd)⟩
            case measure => simp [intOf]; omega
        · obtain rfl : j = xs.length := by omega
          have HV := Lib.hid (show belowN xs xs[k] = F by have := HF.out; rwa [List.take_length] at this)
          have hown := hd.own hown
          have hb := below_dr hb hd
          have hsz : w.heap.size ≤ wr.heap.size := hb.size
          go_wp2_with (at_builtin; refine wpList_append_own _ rfl _ _ 24 rfl (w.heap.size) 3 i0 (.int .i64 0) 1 8 Tryz.underlying24 hi hz0 hz1 hz2 rfl (by decide) _ _ _ rfl (World.ownsRow.alloc hown _) ⟨wr.heap.size, 0, none⟩ 1 1 [.int .i64 ((F : Int) + 1)] rfl rfl (cell_one_new _ _ _) (by intro u hu; simp at hu; subst hu; rfl) (by unfold maxLen; omega) (by omega) (by simp; omega) ?_; intro v1 w1 hown1 hgrow1 _)
          have hb1 := (hb.alloc hsz (Obj.cells #[Value.int .i64 ((F : Int) + 1)] 3)).grown hgrow1 (by simp; omega) (by intro g hg; exact ((hown.lt g hg).1))
          have hS2 : w1.ownsRow w.heap.size 3 1 v1 (k + 1) (((xs.take (k + 1)).map fun x => (belowN xs x : Int) + 1).map (Value.int .i64)) := by rw [HS.out, HV.out]; simpa using hown1
          obtain ⟨A1, cc, rfl, _, _⟩ := own_shape hS2
          have hH1 := Lib.hid hS2
          have hH2 := Lib.hid hb1
          clear hS2 hown1 hgrow1 hb1 hown hb
          go_wp2
          go_roundw
          case rel => exact ⟨k + 1, A1, cc, by omega, by go_num, rfl, hH1.out, hH2.out⟩
          case measure => simp [intOf]; omega
    · obtain rfl : k = xs.length := by omega
      rw [List.take_length] at hown
      go_wp2
      go_ret
      exact ⟨A', c', by rw [patL_length]; rfl, by rw [patL_length]; exact (own_caps hown).1, (own_caps hown).2, by rw [patL_length]; exact hown, hb⟩

end Go.Proofs.YtldknpjeegdbmaaGreat

/- Plain maths: all lists of the numbers 1 to n, breadth first and depth first. -/
namespace Go.Proofs.YtldknpjeegdbmaaGreat
set_option maxRecDepth 100000

def nums (n : Nat) : List Int := (List.range n).map fun i : Nat => (i : Int) + 1
theorem nums_succ (n : Nat) : nums (n + 1) = nums n ++ [(n : Int) + 1] := by simp [nums, List.range_succ]
theorem nums_length (n : Nat) : (nums n).length = n := by simp [nums]
/-- The numbers that may come next. -/
def nexts (n : Nat) (p : List Int) : List Int := (nums n).filter fun v => !decide (v ∈ p)
def ext1 (n : Nat) (p : List Int) : List (List Int) := (nexts n p).map fun v => p ++ [v]
/-- One number more, in every way. -/
def ext (n : Nat) (ls : List (List Int)) : List (List Int) := ls.flatMap (ext1 n)
def permsI (n : Nat) : Nat → List (List Int)
  | 0 => [[]]
  | i + 1 => ext n (permsI n i)
def permsL (n : Nat) : List (List Int) := permsI n n
/-- Depth first: every way to k numbers more. -/
def fillF (n : Nat) : Nat → List Int → List (List Int)
  | 0, p => [p]
  | k + 1, p => (nexts n p).flatMap fun v => fillF n k (p ++ [v])

theorem nums_mem {n : Nat} {v : Int} : v ∈ nums n ↔ 1 ≤ v ∧ v ≤ n := by
  unfold nums
  rw [List.mem_map]
  constructor
  · rintro ⟨i, hi, rfl⟩
    have := List.mem_range.1 hi
    omega
  · rintro ⟨h1, h2⟩
    exact ⟨(v - 1).toNat, List.mem_range.2 (by omega), by omega⟩
theorem nexts_le (n : Nat) (p : List Int) : (nexts n p).length ≤ n := by
  have := List.length_filter_le (fun v => !decide (v ∈ p)) (nums n)
  rw [nums_length] at this
  exact this
theorem nexts_mem {n : Nat} {p : List Int} {v : Int} : v ∈ nexts n p ↔ (1 ≤ v ∧ v ≤ n) ∧ v ∉ p := by
  unfold nexts
  rw [List.mem_filter, nums_mem]
  simp
theorem flatMap_le {α β : Type} (f : α → List β) (m : Nat) (l : List α) (h : ∀ a ∈ l, (f a).length ≤ m) : (l.flatMap f).length ≤ l.length * m := by
  induction l with
  | nil => simp
  | cons a t ih =>
    have h1 := h a (by simp)
    have h2 := ih (fun b hb => h b (by simp [hb]))
    rw [List.flatMap_cons, List.length_append, List.length_cons, Nat.add_mul, Nat.one_mul]
    omega
theorem ext_le (n : Nat) (ls : List (List Int)) : (ext n ls).length ≤ ls.length * n :=
  flatMap_le _ n ls fun p _ => by unfold ext1; rw [List.length_map]; exact nexts_le n p
theorem permsI_le (n i : Nat) : (permsI n i).length ≤ n ^ i := by
  induction i with
  | zero => simp [permsI]
  | succ i ih =>
    have h := ext_le n (permsI n i)
    have h2 := Nat.mul_le_mul_right n ih
    rw [Nat.pow_succ]
    exact Nat.le_trans h h2
theorem fillF_le (n k : Nat) : ∀ p, (fillF n k p).length ≤ n ^ k := by
  induction k with
  | zero => intro p; simp [fillF]
  | succ k ih =>
    intro p
    have h := flatMap_le (fun v => fillF n k (p ++ [v])) (n ^ k) (nexts n p) (fun v _ => ih _)
    have h2 := Nat.mul_le_mul_right (n ^ k) (nexts_le n p)
    rw [Nat.pow_succ, Nat.mul_comm]
    exact Nat.le_trans h h2
theorem fill_iter (n : Nat) : ∀ (k i : Nat), permsI n (i + k) = (permsI n i).flatMap (fillF n k) := by
  intro k
  induction k with
  | zero => intro i; simp [fillF]
  | succ k ih =>
    intro i
    have h := ih (i + 1)
    rw [show i + (k + 1) = i + 1 + k by omega, h]
    show (ext n (permsI n i)).flatMap (fillF n k) = _
    unfold ext
    rw [List.flatMap_assoc]
    congr 1
    funext p
    unfold ext1
    rw [List.flatMap_map]
    rfl
theorem fill_perms (n : Nat) : fillF n n [] = permsL n := by
  have h := fill_iter n n 0
  rw [Nat.zero_add] at h
  show fillF n n [] = permsI n n
  rw [h]
  simp [permsI]
theorem permsI_mem {n i : Nat} {p : List Int} (h : p ∈ permsI n i) : p.length = i ∧ (∀ v ∈ p, 1 ≤ v ∧ v ≤ n) ∧ p.Nodup := by
  induction i generalizing p with
  | zero =>
    have : p = [] := by simpa [permsI] using h
    subst this
    simp
  | succ i ih =>
    obtain ⟨q, hq, hp⟩ := List.mem_flatMap.1 h
    obtain ⟨v, hv, rfl⟩ := List.mem_map.1 hp
    obtain ⟨h1, h2, h3⟩ := ih hq
    obtain ⟨h4, h5⟩ := nexts_mem.1 hv
    refine ⟨by simp [h1], fun u hu => ?_, (nodup_snoc q v).2 ⟨h3, h5⟩⟩
    rcases List.mem_append.1 hu with hu | hu
    · exact h2 u hu
    · obtain rfl := List.mem_singleton.1 hu
      exact h4
theorem permsL_perm {n : Nat} (h8 : n ≤ 8) {p : List Int} (h : p ∈ permsL n) : permB p = true ∧ p.length = n := by
  obtain ⟨h1, h2, h3⟩ := permsI_mem h
  refine ⟨?_, h1⟩
  simp only [permB, decide_eq_true_eq]
  exact ⟨by omega, fun v hv => by rw [h1]; exact h2 v hv, h3⟩
theorem permsI_all {n : Nat} : ∀ (p : List Int), p.Nodup → (∀ v ∈ p, 1 ≤ v ∧ v ≤ n) → p ∈ permsI n p.length := by
  intro p
  induction hl : p.length generalizing p with
  | zero => intro _ _; rw [List.eq_nil_of_length_eq_zero hl]; simp [permsI]
  | succ i ih =>
    intro hn hr
    have hne : p ≠ [] := by intro e; subst e; simp at hl
    obtain ⟨q, v, rfl⟩ : ∃ q v, p = q ++ [v] := ⟨p.dropLast, p.getLast hne, (List.dropLast_concat_getLast hne).symm⟩
    obtain ⟨h1, h2⟩ := (nodup_snoc q v).1 hn
    refine List.mem_flatMap.2 ⟨q, ih q (by simpa using hl) h1 (fun u hu => hr u (by simp [hu])), List.mem_map.2 ⟨v, nexts_mem.2 ⟨hr v (by simp), h2⟩, rfl⟩⟩
theorem permB_mem {p : List Int} (h : permB p = true) : p ∈ permsL p.length := permsI_all p (permB_true h).2.2 (permB_true h).2.1

end Go.Proofs.YtldknpjeegdbmaaGreat

/- Contracts of the reference's statistics. -/
namespace Go.Proofs.YtldknpjeegdbmaaGreat
set_option maxRecDepth 100000
open Go Go.RowKit

theorem l1Bit_any (b : Bool) (w : World) : Calls Tryz.prog 52 #[.bool b] w fun e w' => e = .returned (.int .i64 (if b = true then 1 else 0)) ∧ w = w' := by
  cases b
  · go_enter Tryz.func52, Tryz.ntmps52
    go_wp2
    go_ret
    exact ⟨rfl, rfl⟩
  · go_enter Tryz.func52, Tryz.ntmps52
    go_wp2
    go_ret
    exact ⟨rfl, rfl⟩




def leastL (s : Int) (l : List Int) : Int := l.foldl (fun m x => if x < m then x else m) s
theorem leastL_le (s : Int) (l : List Int) : leastL s l ≤ s := by
  induction l generalizing s with
  | nil => exact Int.le_refl _
  | cons y l ih =>
    have := ih (if y < s then y else s)
    have h2 : leastL s (y :: l) = leastL (if y < s then y else s) l := rfl
    rw [h2]
    refine Int.le_trans this ?_
    split <;> omega
theorem leastL_lt (s : Int) (l : List Int) (x : Int) (hs : x < s) (hne : x ∉ l) : x < leastL s l ↔ ∀ y ∈ l, ¬ y < x := by
  induction l generalizing s with
  | nil => simp [leastL, hs]
  | cons y l ih =>
    have h2 : leastL s (y :: l) = leastL (if y < s then y else s) l := rfl
    rw [h2]
    have hy : y ≠ x := fun e => hne (by simp [e])
    have hne' : x ∉ l := fun e => hne (by simp [e])
    have hle := leastL_le (if y < s then y else s) l
    by_cases h : y < x
    · constructor
      · intro h3
        have : (if y < s then y else s) ≤ y := by split <;> omega
        omega
      · intro h3; exact absurd h (h3 y (by simp))
    · rw [ih _ (by split <;> omega) hne']
      constructor
      · intro g z hz
        rcases List.mem_cons.1 hz with rfl | hz
        · exact h
        · exact g z hz
      · intro g z hz
        exact g z (by simp [hz])
theorem leastL_snoc (s : Int) (l : List Int) (x : Int) : leastL s (l ++ [x]) = if x < leastL s l then x else leastL s l := by unfold leastL; rw [List.foldl_append]; rfl
def mostL (s : Int) (l : List Int) : Int := l.foldl (fun m x => if x > m then x else m) s
theorem mostL_le (s : Int) (l : List Int) : s ≤ mostL s l := by
  induction l generalizing s with
  | nil => exact Int.le_refl _
  | cons y l ih =>
    have := ih (if y > s then y else s)
    have h2 : mostL s (y :: l) = mostL (if y > s then y else s) l := rfl
    rw [h2]
    refine Int.le_trans ?_ this
    split <;> omega
theorem mostL_lt (s : Int) (l : List Int) (x : Int) (hs : s < x) (hne : x ∉ l) : mostL s l < x ↔ ∀ y ∈ l, ¬ y > x := by
  induction l generalizing s with
  | nil => simp [mostL, hs]
  | cons y l ih =>
    have h2 : mostL s (y :: l) = mostL (if y > s then y else s) l := rfl
    rw [h2]
    have hy : y ≠ x := fun e => hne (by simp [e])
    have hne' : x ∉ l := fun e => hne (by simp [e])
    have hle := mostL_le (if y > s then y else s) l
    by_cases h : y > x
    · constructor
      · intro h3
        have : y ≤ (if y > s then y else s) := by split <;> omega
        omega
      · intro h3; exact absurd h (h3 y (by simp))
    · rw [ih _ (by split <;> omega) hne']
      constructor
      · intro g z hz
        rcases List.mem_cons.1 hz with rfl | hz
        · exact h
        · exact g z hz
      · intro g z hz
        exact g z (by simp [hz])
theorem mostL_snoc (s : Int) (l : List Int) (x : Int) : mostL s (l ++ [x]) = if x > mostL s l then x else mostL s l := by unfold mostL; rw [List.foldl_append]; rfl
theorem mem_take_iff {xs : List Int} {k : Nat} {y : Int} (hk : k ≤ xs.length) : y ∈ xs.take k ↔ ∃ j, j < k ∧ xs[j]?.getD 0 = y := by
  constructor
  · intro h
    obtain ⟨j, hj, rfl⟩ := List.getElem_of_mem h
    simp only [List.length_take] at hj
    exact ⟨j, by omega, by simp [show j < xs.length by omega]⟩
  · rintro ⟨j, hj, rfl⟩
    rw [List.getElem?_eq_getElem (show j < xs.length by omega)]
    exact List.mem_take_iff_getElem.2 ⟨j, by omega, rfl⟩
theorem not_mem_take {xs : List Int} {k : Nat} (hk : k < xs.length) (h : xs.Nodup) : xs[k] ∉ xs.take k := by
  have h' := (List.take_sublist (k + 1) xs).nodup h
  rw [List.take_succ_eq_append_getElem hk] at h'
  exact ((nodup_snoc _ _).1 h').2




end Go.Proofs.YtldknpjeegdbmaaGreat

/- Patterns with joined places: the laws' own helpers for them, and IsNear. -/
namespace Go.Proofs.YtldknpjeegdbmaaGreat
set_option maxRecDepth 100000
open Go Go.RowKit

/-- The joined place at j is right, in a pattern of length n. -/
def joinAt (n : Nat) (ys : List Int) (j : Nat) : Bool := decide (1 ≤ ys[j]?.getD 0 ∧ ys[j]?.getD 0 < n ∧ (j = 0 ∨ ys[j - 1]?.getD 0 < ys[j]?.getD 0))
def joinTo (n : Nat) (ys : List Int) (k : Nat) : Bool := (List.range k).all (joinAt n ys)
theorem joinTo_succ (n : Nat) (ys : List Int) (k : Nat) : joinTo n ys (k + 1) = (joinTo n ys k && joinAt n ys k) := by simp [joinTo, List.range_succ]
theorem joinTo_false {n : Nat} {ys : List Int} {k m : Nat} (h : k < m) (ht : joinAt n ys k = false) : joinTo n ys m = false := by
  unfold joinTo
  rw [List.all_eq_false]
  exact ⟨k, List.mem_range.2 h, by simp [ht]⟩
def nearB (xs ys : List Int) : Bool := permB xs && joinTo xs.length ys ys.length

theorem l1In_b (x lo hi : Int) (w : World) (b : Bool) (hb : decide (lo ≤ x ∧ x ≤ hi) = b) :
    Calls Tryz.prog 48 #[.int .i64 x, .int .i64 lo, .int .i64 hi] w fun e w' => e = .returned (.bool b) ∧ w = w' := by
  subst hb
  exact l1In_any x lo hi w

end Go.Proofs.YtldknpjeegdbmaaGreat

/- All permutations of a length, breadth first and depth first. -/
namespace Go.Proofs.YtldknpjeegdbmaaGreat
set_option maxRecDepth 100000
open Go Go.RowKit

theorem pow_six {n i : Nat} (hn : n ≤ 6) (hi : i ≤ 6) : n ^ i ≤ 46656 := by
  have h1 : n ^ i ≤ 6 ^ i := Nat.pow_le_pow_left hn i
  have h2 : 6 ^ i ≤ 6 ^ 6 := Nat.pow_le_pow_right (by omega) hi
  omega
theorem flatMap_take {α β : Type} (f : α → List β) (l : List α) (k : Nat) (h : k < l.length) : (l.take (k + 1)).flatMap f = (l.take k).flatMap f ++ f l[k] := by
  rw [List.take_succ_eq_append_getElem h, List.flatMap_append]; simp
theorem ext_take_le (n : Nat) (ls : List (List Int)) (k : Nat) : (ext n (ls.take k)).length ≤ ls.length * n := by
  have h1 := ext_le n (ls.take k)
  have h2 : (ls.take k).length ≤ ls.length := by simp; omega
  have h3 := Nat.mul_le_mul_right n h2
  omega
/-- What has come of one list's ways at the number v. -/
def extTo (p : List Int) (v : Nat) : List (List Int) := ((nums v).filter fun x => !decide (x ∈ p)).map fun x => p ++ [x]
theorem extTo_succ (p : List Int) (v : Nat) : extTo p (v + 1) = if ((v : Int) + 1) ∈ p then extTo p v else extTo p v ++ [p ++ [(v : Int) + 1]] := by
  unfold extTo
  rw [nums_succ, List.filter_append]
  by_cases h : ((v : Int) + 1) ∈ p <;> simp [h]
theorem extTo_le (p : List Int) (v : Nat) : (extTo p v).length ≤ v := by
  unfold extTo
  have := List.length_filter_le (fun x => !decide (x ∈ p)) (nums v)
  rw [nums_length] at this
  rw [List.length_map]; exact this
theorem ext1_to (n : Nat) (p : List Int) : ext1 n p = extTo p n := rfl

theorem l2Has_b (A : Option Addr) (c n : Nat) (xs : List Int) (x : Int) (w : World) (b : Bool) (hn : xs.length = n) (hl : n ≤ 4611686018427387904) (hx : Rd (Value.int .i64) w w.heap.size A xs) (hb : decide (x ∈ xs) = b) :
    Calls Tryz.prog 49 #[.slice A n c, .int .i64 x] w fun e w' => e = .returned (.bool b) ∧ w = w' := by
  subst hb
  exact l2Has_any A c n xs x w hn hl hx
end Go.Proofs.YtldknpjeegdbmaaGreat

/- The reference's permutations, depth first. -/
namespace Go.Proofs.YtldknpjeegdbmaaGreat
set_option maxRecDepth 100000
open Go Go.RowKit

/-- What a call that fills a list leaves: the rows that came, behind those that were there; the rows F beside them are kept. -/
def Filled (w : World) (lo : Nat) (F rs : List Row) (L : List (List Int)) (e : Ending) (w' : World) : Prop :=
  ∃ A' c' rs', e = .returned (.slice A' (rs.length + rs'.length) c') ∧ rs'.map Row.xs = L ∧ Own w' lo w'.heap.size (F ++ (rs ++ rs')) [⟨A', c', (rs ++ rs').map Row.v⟩] ∧ Below lo w w'
theorem own_row {w : World} {lo hi : Nat} {rs : List Row} {os : List Outer} (h : Own w lo hi rs os) {r : Row} (hr : r ∈ rs) (hh : hi ≤ w.heap.size) : r.xs.length ≤ r.c ∧ Rd (Value.int .i64) w w.heap.size r.A r.xs :=
  ⟨h.read.cap r hr, (h.read.rd r hr).more hh⟩

def fillTo (n k : Nat) (p : List Int) (u : Nat) : List (List Int) := ((nums u).filter fun v => !decide (v ∈ p)).flatMap fun v => fillF n k (p ++ [v])
theorem fillTo_succ (n k : Nat) (p : List Int) (u : Nat) : fillTo n k p (u + 1) = if ((u : Int) + 1) ∈ p then fillTo n k p u else fillTo n k p u ++ fillF n k (p ++ [(u : Int) + 1]) := by
  unfold fillTo
  rw [nums_succ, List.filter_append]
  by_cases h : ((u : Int) + 1) ∈ p <;> simp [h]
theorem fillTo_le (n k : Nat) (p : List Int) (u : Nat) : (fillTo n k p u).length ≤ u * n ^ k := by
  have h := flatMap_le (fun v => fillF n k (p ++ [v])) (n ^ k) ((nums u).filter fun v => !decide (v ∈ p)) (fun v _ => fillF_le n k _)
  have h1 := List.length_filter_le (fun v => !decide (v ∈ p)) (nums u)
  rw [nums_length] at h1
  exact Nat.le_trans h (Nat.mul_le_mul_right _ h1)
theorem fillTo_all (n k : Nat) (p : List Int) : fillTo n k p n = fillF n (k + 1) p := rfl


end Go.Proofs.YtldknpjeegdbmaaGreat

/- Counting permutations for which something holds; AvoidRuns. -/
namespace Go.Proofs.YtldknpjeegdbmaaGreat
set_option maxRecDepth 100000
open Go Go.RowKit

theorem isPerm_ib (A : Option Addr) (c : Nat) (xs : List Int) (w : World) (b : Bool) (h : In w A c xs) (hb : permB xs = b) : Calls Tryz.prog 28 #[.slice A xs.length c] w (Rb w (.bool b)) := by
  subst hb; exact isPerm_impl A c xs w h
theorem isPerm_sb (A : Option Addr) (c : Nat) (xs : List Int) (w : World) (b : Bool) (h : In w A c xs) (hb : permB xs = b) : Calls Tryz.prog 21 #[.slice A xs.length c] w (Rq w (.bool b)) := by
  subst hb; exact isPerm_spec A c xs w h
theorem l1Bit_b (b : Bool) (n : Int) (w : World) (hb : (if b = true then 1 else 0) = n) : Calls Tryz.prog 52 #[.bool b] w fun e w' => e = .returned (.int .i64 n) ∧ w = w' := by
  subst hb; exact l1Bit_q b w
/-- How many of the first k have it. -/
def cntTo {α : Type} (H : α → Bool) (l : List α) (k : Nat) : Nat := ((l.take k).filter H).length
theorem cntTo_succ {α : Type} (H : α → Bool) (l : List α) (k : Nat) (h : k < l.length) : cntTo H l (k + 1) = cntTo H l k + (if H l[k] = true then 1 else 0) := by
  unfold cntTo
  rw [List.take_succ_eq_append_getElem h, List.filter_append, List.length_append]
  by_cases hh : H l[k] = true <;> simp [hh]
theorem cntTo_le {α : Type} (H : α → Bool) (l : List α) (k : Nat) : cntTo H l k ≤ k := by
  unfold cntTo
  have h1 := List.length_filter_le H (l.take k)
  have h2 := List.length_take_le k l
  omega
theorem cntTo_all {α : Type} (H : α → Bool) (l : List α) : cntTo H l l.length = (l.filter H).length := by unfold cntTo; rw [List.take_length]
theorem permsL_le {n : Nat} (hn : n ≤ 6) : (permsL n).length ≤ 46656 := Nat.le_trans (permsI_le n n) (pow_six hn hn)
theorem row_in {w : World} {B : Nat} {rs : List Row} {os : List Outer} (h : Read w B rs os) {r : Row} (hr : r ∈ rs) (hl : r.xs.length ≤ 1048576) (hB : B ≤ w.heap.size) : In w r.A r.c r.xs := ⟨hl, h.cap r hr, (h.rd r hr).more hB⟩
theorem map_getX {rs : List Row} {L : List (List Int)} (h : rs.map Row.xs = L) {j : Nat} (hj : j < rs.length) : rs[j].xs = L[j]'(by rw [← h, List.length_map]; exact hj) := by
  subst h; simp
theorem map_memX {rs : List Row} {L : List (List Int)} (h : rs.map Row.xs = L) {r : Row} (hr : r ∈ rs) : r.xs ∈ L := by
  subst h; exact List.mem_map.2 ⟨r, hr, rfl⟩

def sixB (n : Int) : Bool := decide (0 ≤ n ∧ n ≤ 6)



end Go.Proofs.YtldknpjeegdbmaaGreat

/- Plain: permutations as lists: how many there can be in a range; a permutation is its own pattern. -/
namespace Go.Proofs.YtldknpjeegdbmaaGreat
set_option maxRecDepth 100000
open Go

theorem nodup_len_le : ∀ (k : Nat) (l : List Int) (lo : Int), l.Nodup → (∀ y ∈ l, lo ≤ y ∧ y < lo + k) → l.length ≤ k
  | 0, l, lo, _, h => by
    cases l with
    | nil => simp
    | cons y l => have := h y (by simp); omega
  | k + 1, l, lo, hn, h => by
    have h1 := nodup_len_le k (l.erase (lo + k)) lo (hn.erase _) (fun y hy => by
      have hm := List.mem_of_mem_erase hy
      have hne : y ≠ lo + k := fun e => by
        subst e
        exact (hn.mem_erase_iff.1 hy).1 rfl
      have := h y hm
      omega)
    have h2 := List.length_erase (a := lo + k) (l := l)
    split at h2 <;> omega

theorem belowN_eq {l : List Int} {m : Nat} (hn : l.Nodup) (hr : ∀ y ∈ l, 1 ≤ y ∧ y ≤ m) (hl : l.length = m) (x : Int) (hx : 1 ≤ x ∧ x ≤ m) : (belowN l x : Int) = x - 1 := by
  have h1 := nodup_len_le (x - 1).toNat (l.filter fun y => decide (y < x)) 1 (hn.filter _) (fun y hy => by
    have := List.mem_filter.1 hy
    have h := hr y this.1
    have h2 : y < x := by simpa using this.2
    omega)
  have h2 := nodup_len_le (m + 1 - x).toNat (l.filter fun y => !decide (y < x)) x (hn.filter _) (fun y hy => by
    have := List.mem_filter.1 hy
    have h := hr y this.1
    have h2 : ¬ y < x := by simpa using this.2
    omega)
  have h3 : (l.filter fun y => decide (y < x)).length + (l.filter fun y => !decide (y < x)).length = l.length := by
    clear h1 h2 hn hr hl
    induction l with
    | nil => rfl
    | cons y l ih => by_cases h : y < x <;> simp [h] <;> omega
  unfold belowN
  omega

theorem patL_self {l : List Int} {m : Nat} (hn : l.Nodup) (hr : ∀ y ∈ l, 1 ≤ y ∧ y ≤ m) (hl : l.length = m) : patL l = l := by
  unfold patL
  conv => rhs; rw [← List.map_id l]
  exact List.map_congr_left fun x hx => by rw [belowN_eq hn hr hl x (hr x hx)]; simp

/-- In a permutation of n each number up to n occurs. -/
theorem perm_mem {l : List Int} {m : Nat} (hn : l.Nodup) (hr : ∀ y ∈ l, 1 ≤ y ∧ y ≤ m) (hl : l.length = m) (x : Int) (hx : 1 ≤ x ∧ x ≤ m) : x ∈ l := by
  refine Classical.byContradiction fun hno => ?_
  have h1 := nodup_len_le (x - 1).toNat (l.filter fun y => decide (y < x)) 1 (hn.filter _) (fun y hy => by
    have := List.mem_filter.1 hy
    have h := hr y this.1
    have h2 : y < x := by simpa using this.2
    omega)
  have h2 := nodup_len_le (m - x).toNat (l.filter fun y => !decide (y < x)) (x + 1) (hn.filter _) (fun y hy => by
    have := List.mem_filter.1 hy
    have h := hr y this.1
    have h2 : ¬ y < x := by simpa using this.2
    have h3 : y ≠ x := fun e => hno (by subst e; exact this.1)
    omega)
  have h3 : (l.filter fun y => decide (y < x)).length + (l.filter fun y => !decide (y < x)).length = l.length := by
    clear h1 h2 hn hr hl hno
    induction l with
    | nil => rfl
    | cons y l ih => by_cases h : y < x <;> simp [h] <;> omega
  omega

def cutAt (xs : List Int) (i : Nat) : List Int := xs.take i ++ xs.drop (i + 1)
theorem cutAt_length (xs : List Int) (i : Nat) (h : i < xs.length) : (cutAt xs i).length = xs.length - 1 := by simp [cutAt]; omega
theorem cutAt_split {xs : List Int} {i : Nat} (h : i < xs.length) : xs = xs.take i ++ (xs[i] :: xs.drop (i + 1)) := by
  rw [← List.drop_eq_getElem_cons h, List.take_append_drop]
/-- The greatest number cut out of a permutation leaves the lesser ones, a permutation. -/
theorem parent_eq {xs : List Int} {i : Nat} (hp : permB xs = true) (hi : i < xs.length) (hx : xs[i] = (xs.length : Int)) : patL (cutAt xs i) = xs.filter fun y => decide (y < (xs.length : Int)) := by
  obtain ⟨_, hr, hn⟩ := permB_true hp
  have hs := cutAt_split hi
  have hf : (xs.filter fun y => decide (y < (xs.length : Int))) = cutAt xs i := by
    have key : ∀ l : List Int, (∀ y ∈ l, y ≠ (xs.length : Int)) → (∀ y ∈ l, 1 ≤ y ∧ y ≤ (xs.length : Int)) → l.filter (fun y => decide (y < (xs.length : Int))) = l := fun l h1 h2 => List.filter_eq_self.2 fun y hy => by
      have a := h1 y hy
      have b := (h2 y hy).2
      simp; omega
    have hn' := hn
    rw [hs, List.nodup_append] at hn'
    obtain ⟨_, hn2, hn3⟩ := hn'
    rw [List.nodup_cons] at hn2
    conv => lhs; arg 2; rw [hs]
    rw [List.filter_append, List.filter_cons, if_neg (by rw [hx]; simp)]
    rw [key _ (fun y hy e => hn3 y hy _ (List.mem_cons_self) (by rw [hx]; exact e)) (fun y hy => hr y (List.mem_of_mem_take hy)), key _ (fun y hy e => hn2.1 (by rw [hx, ← e]; exact hy)) (fun y hy => hr y (List.mem_of_mem_drop hy))]
    rfl
  rw [hf]
  refine patL_self (m := xs.length - 1) ?_ ?_ (cutAt_length xs i hi)
  · rw [← hf]; exact hn.filter _
  · intro y hy
    rw [← hf] at hy
    have h1 := List.mem_filter.1 hy
    have h2 := hr y h1.1
    have h3 : y < (xs.length : Int) := by simpa using h1.2
    omega
end Go.Proofs.YtldknpjeegdbmaaGreat

/- Plain maths: ascending lists of places, occurrences of a pattern, breadth first and depth first. -/
namespace Go.Proofs.YtldknpjeegdbmaaGreat
set_option maxRecDepth 100000

/-- The place behind the last one. -/
def fromI (l : List Int) : Int := match l.getLast? with
  | none => 1
  | some x => x + 1
theorem fromI_nil : fromI [] = 1 := rfl
theorem fromI_snoc (l : List Int) (x : Int) : fromI (l ++ [x]) = x + 1 := by simp [fromI]
def ways (n : Nat) (l : List Int) : List Int := marks (fromI l) ((n : Int) + 1 - fromI l).toNat
theorem ways_mem {n : Nat} {l : List Int} {x : Int} : x ∈ ways n l ↔ fromI l ≤ x ∧ x ≤ n := by
  unfold ways marks
  rw [List.mem_map]
  constructor
  · rintro ⟨i, hi, rfl⟩
    have := List.mem_range.1 hi
    omega
  · rintro ⟨h1, h2⟩
    exact ⟨(x - fromI l).toNat, List.mem_range.2 (by omega), by omega⟩
def asc1 (n : Nat) (l : List Int) : List (List Int) := (ways n l).map fun x => l ++ [x]
def ascX (n : Nat) (ls : List (List Int)) : List (List Int) := ls.flatMap (asc1 n)
def ascI (n : Nat) : Nat → List (List Int)
  | 0 => [[]]
  | k + 1 => ascX n (ascI n k)
def ascF (n : Nat) : Nat → List Int → List (List Int)
  | 0, l => [l]
  | k + 1, l => (ways n l).flatMap fun x => ascF n k (l ++ [x])
theorem asc_iter (n : Nat) : ∀ (k i : Nat), ascI n (i + k) = (ascI n i).flatMap (ascF n k) := by
  intro k
  induction k with
  | zero => intro i; simp [ascF]
  | succ k ih =>
    intro i
    have h := ih (i + 1)
    rw [show i + (k + 1) = i + 1 + k by omega, h]
    show (ascX n (ascI n i)).flatMap (ascF n k) = _
    unfold ascX
    rw [List.flatMap_assoc]
    congr 1
    funext p
    unfold asc1
    rw [List.flatMap_map]
    rfl
theorem asc_fill (n k : Nat) : ascF n k [] = ascI n k := by
  have h := asc_iter n k 0
  rw [Nat.zero_add] at h
  rw [h]
  simp [ascI]
/-- Ascending, from 1 to n. -/
def Asc (n : Nat) (l : List Int) : Prop := (∀ x ∈ l, 1 ≤ x ∧ x ≤ n ∧ x < fromI l) ∧ l.Nodup
theorem Asc.nil (n : Nat) : Asc n [] := ⟨by simp, by simp⟩
theorem Asc.from {n : Nat} {l : List Int} (h : Asc n l) : 1 ≤ fromI l := by
  rcases hl : l.getLast? with _ | x
  · simp [fromI, hl]
  · have hm : x ∈ l := List.mem_of_getLast? hl
    have := h.1 x hm
    simp only [fromI, hl]
    omega
theorem Asc.snoc {n : Nat} {l : List Int} (h : Asc n l) {x : Int} (hx : x ∈ ways n l) : Asc n (l ++ [x]) := by
  obtain ⟨h1, h2⟩ := ways_mem.1 hx
  have hf := h.from
  refine ⟨fun y hy => ?_, (nodup_snoc l x).2 ⟨h.2, fun hm => by have := h.1 x hm; omega⟩⟩
  rw [fromI_snoc]
  rcases List.mem_append.1 hy with hy | hy
  · have := h.1 y hy
    omega
  · obtain rfl := List.mem_singleton.1 hy
    omega
theorem ascI_mem {n : Nat} : ∀ {k : Nat} {l : List Int}, l ∈ ascI n k → l.length = k ∧ Asc n l := by
  intro k
  induction k with
  | zero =>
    intro l h
    have : l = [] := by simpa [ascI] using h
    subst this
    exact ⟨rfl, Asc.nil n⟩
  | succ k ih =>
    intro l h
    obtain ⟨m, hm, hl⟩ := List.mem_flatMap.1 h
    obtain ⟨x, hx, rfl⟩ := List.mem_map.1 hl
    obtain ⟨h1, h2⟩ := ih hm
    exact ⟨by simp [h1], h2.snoc hx⟩
theorem marks_len (k : Int) (n : Nat) : (marks k n).length = n := by simp [marks]
theorem ways_le {n : Nat} {l : List Int} (h : 1 ≤ fromI l) : (ways n l).length ≤ n := by
  unfold ways
  rw [marks_len]
  omega
theorem ascI_le (n k : Nat) : (ascI n k).length ≤ n ^ k := by
  induction k with
  | zero => simp [ascI]
  | succ k ih =>
    have h := flatMap_le (asc1 n) n (ascI n k) (fun p hp => by
      unfold asc1
      rw [List.length_map]
      exact ways_le (ascI_mem hp).2.from)
    have h2 := Nat.mul_le_mul_right n ih
    rw [Nat.pow_succ]
    exact Nat.le_trans h h2

/-- The numbers at places. -/
def atL (p l : List Int) : List Int := l.map fun x => p[(x - 1).toNat]?.getD 0
theorem atL_length (p l : List Int) : (atL p l).length = l.length := by simp [atL]
def nth (p : List Int) (i : Int) : Int := p[i.toNat]?.getD 0
/-- The last place agrees with all before it. -/
def fitsB (p q l : List Int) : Bool := (List.range (l.length - 1)).all fun k => decide (q[k]?.getD 0 < q[l.length - 1]?.getD 0) == decide ((atL p l)[k]?.getD 0 < (atL p l)[l.length - 1]?.getD 0)
def occF (p q : List Int) : Nat → List Int → List (List Int)
  | 0, l => [l]
  | k + 1, l => ((ways p.length l).filter fun x => fitsB p q (l ++ [x])).flatMap fun x => occF p q k (l ++ [x])
def occI (p q : List Int) : List (List Int) := (ascI p.length q.length).filter fun l => decide (patL (atL p l) = q)
def occL (p q : List Int) : List (List Int) := occF p q q.length []
def allfits (p q l : List Int) : Bool := (List.range l.length).all fun j => fitsB p q (l.take (j + 1))
theorem allfits_snoc (p q l : List Int) (x : Int) : allfits p q (l ++ [x]) = (allfits p q l && fitsB p q (l ++ [x])) := by
  unfold allfits
  rw [List.length_append, List.length_singleton, List.range_succ, List.all_append]
  have h1 : ((List.range l.length).all fun j => fitsB p q ((l ++ [x]).take (j + 1))) = (List.range l.length).all fun j => fitsB p q (l.take (j + 1)) := by
    rw [Bool.eq_iff_iff, List.all_eq_true, List.all_eq_true]
    constructor
    · intro h j hj
      have h2 := h j hj
      have := List.mem_range.1 hj
      rwa [List.take_append_of_le_length (by omega)] at h2
    · intro h j hj
      have := List.mem_range.1 hj
      rw [List.take_append_of_le_length (by omega)]
      exact h j hj
  rw [h1]
  simp only [List.all_cons, List.all_nil, Bool.and_true]
  rw [List.take_of_length_le (by simp)]
theorem ascF_mem {n : Nat} : ∀ {k : Nat} {l m : List Int}, m ∈ ascF n k l → ∃ t, m = l ++ t ∧ t.length = k := by
  intro k
  induction k with
  | zero =>
    intro l m h
    have : m = l := by simpa [ascF] using h
    subst this
    exact ⟨[], by simp, rfl⟩
  | succ k ih =>
    intro l m h
    obtain ⟨x, _, hm⟩ := List.mem_flatMap.1 h
    obtain ⟨t, rfl, ht⟩ := ih hm
    exact ⟨x :: t, by simp, by simp [ht]⟩
theorem allfits_prefix {p q l t : List Int} (h : allfits p q (l ++ t) = true) : allfits p q l = true := by
  induction t generalizing l with
  | nil => simpa using h
  | cons x t ih =>
    have h2 : allfits p q ((l ++ [x]) ++ t) = true := by simpa using h
    have h3 := ih h2
    rw [allfits_snoc] at h3
    simp only [Bool.and_eq_true] at h3
    exact h3.1
theorem occF_filter (p q : List Int) : ∀ (k : Nat) (l : List Int), allfits p q l = true → occF p q k l = (ascF p.length k l).filter (allfits p q) := by
  intro k
  induction k with
  | zero => intro l h; simp [occF, ascF, h]
  | succ k ih =>
    intro l h
    show ((ways p.length l).filter fun x => fitsB p q (l ++ [x])).flatMap (fun x => occF p q k (l ++ [x])) = ((ways p.length l).flatMap fun x => ascF p.length k (l ++ [x])).filter (allfits p q)
    rw [List.filter_flatMap]
    generalize ways p.length l = W
    induction W with
    | nil => rfl
    | cons x W ihW =>
      rw [List.flatMap_cons, ← ihW]
      by_cases hf : fitsB p q (l ++ [x]) = true
      · rw [List.filter_cons_of_pos (by simpa using hf), List.flatMap_cons, ih (l ++ [x]) (by rw [allfits_snoc, h, hf]; rfl)]
      · rw [List.filter_cons_of_neg (by simpa using hf)]
        have : (ascF p.length k (l ++ [x])).filter (allfits p q) = [] := by
          rw [List.filter_eq_nil_iff]
          intro m hm ha
          obtain ⟨t, rfl, _⟩ := ascF_mem hm
          have h2 := allfits_prefix ha
          rw [allfits_snoc] at h2
          simp only [Bool.and_eq_true] at h2
          exact hf h2.2
        rw [this]
        rfl

theorem nodup_inj {l : List Int} (h : l.Nodup) {i j : Nat} (hi : i < l.length) (hj : j < l.length) (e : l[i] = l[j]) : i = j := by
  rw [List.nodup_iff_pairwise_ne] at h
  rcases Nat.lt_trichotomy i j with a | a | a
  · exact absurd e (List.pairwise_iff_getElem.1 h i j hi hj a)
  · exact a
  · exact absurd e.symm (List.pairwise_iff_getElem.1 h j i hj hi a)
theorem filter_len {L q : List Int} (P Q : Int → Bool) (hl : L.length = q.length) (h : ∀ j (h1 : j < L.length) (h2 : j < q.length), P L[j] = Q q[j]) : (L.filter P).length = (q.filter Q).length := by
  induction L generalizing q with
  | nil => cases q with
    | nil => rfl
    | cons a t => simp at hl
  | cons a t ih => cases q with
    | nil => simp at hl
    | cons b u =>
      have h0 := h 0 (by simp) (by simp)
      have h1 := ih (q := u) (by simpa using hl) (fun j h1 h2 => h (j + 1) (by simpa using h1) (by simpa using h2))
      simp only [List.getElem_cons_zero] at h0
      rw [List.filter_cons, List.filter_cons, h0]
      split <;> simp [h1]
theorem belowN_lt {L : List Int} {x y : Int} (hm : x ∈ L) (h : x < y) : belowN L x < belowN L y := by
  unfold belowN
  have h1 : ((L.filter fun z => decide (z < y)).filter fun z => decide (z < x)) = L.filter fun z => decide (z < x) := by
    rw [List.filter_filter]
    congr 1
    funext z
    by_cases hz : z < x
    · simp [hz, show z < y by omega]
    · simp [hz]
  rw [← h1]
  apply List.length_filter_lt_length_iff_exists.2
  exact ⟨x, List.mem_filter.2 ⟨hm, by simpa using h⟩, by simp⟩
theorem belowN_mono {L : List Int} {x y : Int} (h : x ≤ y) : belowN L x ≤ belowN L y := by
  unfold belowN
  have h1 : ((L.filter fun z => decide (z < y)).filter fun z => decide (z < x)) = L.filter fun z => decide (z < x) := by
    rw [List.filter_filter]
    congr 1
    funext z
    by_cases hz : z < x
    · simp [hz, show z < y by omega]
    · simp [hz]
  rw [← h1]
  exact List.length_filter_le _ _
theorem patL_lt {L : List Int} {i j : Nat} (hi : i < L.length) (hj : j < L.length) : ((patL L)[i]'(by rw [patL_length]; exact hi) < (patL L)[j]'(by rw [patL_length]; exact hj)) ↔ L[i] < L[j] := by
  simp only [patL, List.getElem_map]
  constructor
  · intro h
    rcases Int.lt_or_le L[i] L[j] with h1 | h1
    · exact h1
    · have := belowN_mono (L := L) h1
      omega
  · intro h
    have := belowN_lt (List.getElem_mem hi) h
    omega
/-- A list has a pattern where both rise and fall alike. -/
theorem patL_iff {L q : List Int} (hl : L.length = q.length) (hL : L.Nodup) (hq : permB q = true) :
    patL L = q ↔ ∀ i j (hi : i < L.length) (hj : j < L.length), i < j → (q[i]'(by omega) < q[j]'(by omega) ↔ L[i] < L[j]) := by
  obtain ⟨_, hr, hn⟩ := permB_true hq
  have hself := patL_self hn (m := q.length) hr rfl
  constructor
  · intro h i j hi hj hij
    subst h
    exact patL_lt hi hj
  · intro h
    rw [← hself]
    apply List.ext_getElem
    · rw [patL_length, patL_length, hl]
    · intro i h1 h2
      rw [patL_length] at h1 h2
      simp only [patL, List.getElem_map]
      have : belowN L L[i] = belowN q q[i] := by
        apply filter_len _ _ hl
        intro j h3 h4
        rw [decide_eq_decide]
        rcases Nat.lt_trichotomy j i with hlt | rfl | hgt
        · exact (h j i h3 h1 hlt).symm
        · constructor <;> intro hh <;> omega
        · have h5 := h i j h1 h3 hgt
          have e1 : L[i] ≠ L[j] := fun e => by have := nodup_inj hL _ _ e; omega
          have e2 : q[i] ≠ q[j] := fun e => by have := nodup_inj hn _ _ e; omega
          omega
      rw [this]
theorem nth_inj {p : List Int} (hp : p.Nodup) {x y : Int} (hx : 1 ≤ x ∧ x ≤ p.length) (hy : 1 ≤ y ∧ y ≤ p.length) (h : p[(x - 1).toNat]?.getD 0 = p[(y - 1).toNat]?.getD 0) : x = y := by
  have h1 : (x - 1).toNat < p.length := by omega
  have h2 : (y - 1).toNat < p.length := by omega
  rw [List.getElem?_eq_getElem h1, List.getElem?_eq_getElem h2] at h
  simp only [Option.getD_some] at h
  have := nodup_inj hp _ _ h
  omega
theorem atL_nodup {p l : List Int} (hp : p.Nodup) (hl : Asc p.length l) : (atL p l).Nodup := by
  unfold atL
  rw [List.nodup_iff_pairwise_ne, List.pairwise_map]
  have h := hl.2
  rw [List.nodup_iff_pairwise_ne] at h
  refine h.imp_of_mem fun {a b} ha hb hab e => hab ?_
  have h1 := hl.1 a ha
  have h2 := hl.1 b hb
  exact nth_inj hp ⟨h1.1, h1.2.1⟩ ⟨h2.1, h2.2.1⟩ e
theorem fitsB_iff {p q l : List Int} {n : Nat} (hl : l.length = n + 1) (hq : n < q.length) : fitsB p q l = true ↔ ∀ k (hk : k < n), (q[k] < q[n] ↔ (atL p l)[k]'(by rw [atL_length]; omega) < (atL p l)[n]'(by rw [atL_length]; omega)) := by
  unfold fitsB
  rw [List.all_eq_true]
  have hn : l.length - 1 = n := by omega
  rw [hn]
  constructor
  · intro h k hk
    have h1 := h k (List.mem_range.2 hk)
    rw [List.getElem?_eq_getElem (show k < q.length by omega), List.getElem?_eq_getElem hq, List.getElem?_eq_getElem (show k < (atL p l).length by rw [atL_length]; omega), List.getElem?_eq_getElem (show n < (atL p l).length by rw [atL_length]; omega)] at h1
    simpa using h1
  · intro h k hk
    have hk := List.mem_range.1 hk
    have h1 := h k hk
    rw [List.getElem?_eq_getElem (show k < q.length by omega), List.getElem?_eq_getElem hq, List.getElem?_eq_getElem (show k < (atL p l).length by rw [atL_length]; omega), List.getElem?_eq_getElem (show n < (atL p l).length by rw [atL_length]; omega)]
    simpa using h1
theorem allfits_iff {p q l : List Int} (hl : l.length = q.length) : allfits p q l = true ↔ ∀ i j (hi : i < l.length) (hj : j < l.length), i < j → (q[i]'(by omega) < q[j]'(by omega) ↔ (atL p l)[i]'(by rw [atL_length]; omega) < (atL p l)[j]'(by rw [atL_length]; omega)) := by
  unfold allfits
  rw [List.all_eq_true]
  have key : ∀ (j : Nat) (hj : j < l.length) (k : Nat) (hk : k < j + 1), (atL p (l.take (j + 1)))[k]'(by rw [atL_length, List.length_take]; omega) = (atL p l)[k]'(by rw [atL_length]; omega) := by
    intro j hj k hk
    simp [atL]
  constructor
  · intro h i j hi hj hij
    have h1 := (fitsB_iff (p := p) (q := q) (n := j) (by rw [List.length_take]; omega) (by omega)).1 (h j (List.mem_range.2 hj)) i hij
    rw [key j hj i (by omega), key j hj j (by omega)] at h1
    exact h1
  · intro h j hj
    have hj := List.mem_range.1 hj
    rw [fitsB_iff (n := j) (by rw [List.length_take]; omega) (by omega)]
    intro k hk
    rw [key j hj k (by omega), key j hj j (by omega)]
    exact h k j (by omega) hj hk
theorem allfits_pat {p q l : List Int} (hp : permB p = true) (hq : permB q = true) (hl : l ∈ ascI p.length q.length) : allfits p q l = decide (patL (atL p l) = q) := by
  obtain ⟨h1, h2⟩ := ascI_mem hl
  have hn := atL_nodup (permB_true hp).2.2 h2
  have hi := patL_iff (L := atL p l) (q := q) (by rw [atL_length, h1]) hn hq
  rw [Bool.eq_iff_iff, allfits_iff h1, decide_eq_true_eq, hi]
  constructor
  · intro h i j hi hj hij
    rw [atL_length] at hi hj
    exact h i j hi hj hij
  · intro h i j hi hj hij
    exact h i j (by rw [atL_length]; exact hi) (by rw [atL_length]; exact hj) hij
theorem occ_eq {p q : List Int} (hp : permB p = true) (hq : permB q = true) : occL p q = occI p q := by
  unfold occL occI
  rw [occF_filter p q q.length [] rfl, asc_fill]
  exact List.filter_congr fun l hl => allfits_pat hp hq hl
theorem occF_le (p q : List Int) : ∀ (k : Nat) (l : List Int), 1 ≤ fromI l → (occF p q k l).length ≤ p.length ^ k := by
  intro k
  induction k with
  | zero => intro l _; simp [occF]
  | succ k ih =>
    intro l hl
    have hm : ∀ x ∈ (ways p.length l).filter fun x => fitsB p q (l ++ [x]), (occF p q k (l ++ [x])).length ≤ p.length ^ k := fun x hx => by
      have := (ways_mem.1 (List.mem_filter.1 hx).1).1
      exact ih _ (by rw [fromI_snoc]; omega)
    have h := flatMap_le (fun x => occF p q k (l ++ [x])) (p.length ^ k) _ hm
    have h1 : ((ways p.length l).filter fun x => fitsB p q (l ++ [x])).length ≤ p.length := Nat.le_trans (List.length_filter_le _ _) (ways_le hl)
    have h2 := Nat.mul_le_mul_right (p.length ^ k) h1
    rw [Nat.pow_succ, Nat.mul_comm]
    exact Nat.le_trans h h2

/-- Does the pattern occur? -/
def hasB (p q : List Int) : Bool := !(occL p q).isEmpty
/-- Places counted from 0, as the program counts them. -/
def from0 (l : List Int) : Int := match l.getLast? with
  | none => 0
  | some x => x + 1
theorem from0_up (l : List Int) : fromI (l.map (· + 1)) = from0 l + 1 := by
  unfold fromI from0
  rw [List.getLast?_map]
  cases l.getLast? <;> rfl
def up (l : List Int) : List Int := l.map (· + 1)
def hasF (p q : List Int) : Nat → List Int → Bool
  | 0, _ => true
  | k + 1, l => (marks (from0 l) ((p.length : Int) - (k + 1) + 1 - from0 l).toNat).any fun i => fitsB p q (up (l ++ [i])) && hasF p q k (l ++ [i])
theorem occF_none (p q : List Int) : ∀ (k : Nat) (l : List Int), (p.length : Int) + 1 < fromI l + k → 1 ≤ k → occF p q k l = [] := by
  intro k
  induction k with
  | zero => intro l _ h; omega
  | succ k ih =>
    intro l h _
    show ((ways p.length l).filter fun x => fitsB p q (l ++ [x])).flatMap (fun x => occF p q k (l ++ [x])) = []
    rw [List.flatMap_eq_nil_iff]
    intro x hx
    obtain ⟨h1, h2⟩ := ways_mem.1 (List.mem_filter.1 hx).1
    rcases Nat.eq_zero_or_pos k with rfl | hk
    · exfalso; simp at h; omega
    · exact ih _ (by rw [fromI_snoc]; push_cast at h; omega) hk
theorem hasF_eq (p q : List Int) : ∀ (k : Nat) (l : List Int), hasF p q k l = !(occF p q k (up l)).isEmpty := by
  intro k
  induction k with
  | zero => intro l; simp [hasF, occF]
  | succ k ih =>
    intro l
    have hup : ∀ x, up l ++ [x + 1] = up (l ++ [x]) := fun x => by simp [up]
    rw [Bool.eq_iff_iff]
    constructor
    · intro h
      obtain ⟨i, hi, h1⟩ := List.any_eq_true.1 h
      simp only [Bool.and_eq_true] at h1
      rw [ih] at h1
      obtain ⟨m, hm, rfl⟩ := List.mem_map.1 hi
      have hm := List.mem_range.1 hm
      rw [Bool.not_eq_true', List.isEmpty_eq_false_iff] at h1 ⊢
      intro he
      have h2 : (from0 l + m + 1) ∈ (ways p.length (up l)).filter fun x => fitsB p q (up l ++ [x]) := by
        refine List.mem_filter.2 ⟨ways_mem.2 ?_, by rw [hup]; exact h1.1⟩
        rw [show fromI (up l) = from0 l + 1 from from0_up l]
        push_cast at hm
        omega
      have h3 := List.flatMap_eq_nil_iff.1 he _ h2
      rw [hup] at h3
      exact h1.2 h3
    · intro h
      rw [Bool.not_eq_true', List.isEmpty_eq_false_iff] at h
      have hne : ∃ x, x ∈ ((ways p.length (up l)).filter fun x => fitsB p q (up l ++ [x])) ∧ occF p q k (up l ++ [x]) ≠ [] := by
        apply Classical.byContradiction
        intro hno
        apply h
        show ((ways p.length (up l)).filter fun x => fitsB p q (up l ++ [x])).flatMap (fun x => occF p q k (up l ++ [x])) = []
        rw [List.flatMap_eq_nil_iff]
        intro x hx
        apply Classical.byContradiction
        intro hc
        exact hno ⟨x, hx, hc⟩
      obtain ⟨x, hx, hc⟩ := hne
      obtain ⟨hx1, hx2⟩ := List.mem_filter.1 hx
      obtain ⟨h1, h2⟩ := ways_mem.1 hx1
      rw [show fromI (up l) = from0 l + 1 from from0_up l] at h1
      obtain ⟨i, rfl⟩ : ∃ i, x = i + 1 := ⟨x - 1, by omega⟩
      rw [hup] at hx2 hc
      refine List.any_eq_true.2 ⟨i, List.mem_map.2 ⟨(i - from0 l).toNat, List.mem_range.2 ?_, by omega⟩, ?_⟩
      · rcases Nat.eq_zero_or_pos k with rfl | hk
        · simp; omega
        · have : ¬ ((p.length : Int) + 1 < fromI (up (l ++ [i])) + k) := fun h => hc (occF_none p q k _ h hk)
          rw [show fromI (up (l ++ [i])) = from0 (l ++ [i]) + 1 from from0_up _] at this
          have e : from0 (l ++ [i]) = i + 1 := by simp [from0]
          rw [e] at this
          push_cast
          omega
      · simp only [Bool.and_eq_true]
        rw [ih, Bool.not_eq_true', List.isEmpty_eq_false_iff]
        exact ⟨hx2, hc⟩
theorem hasF_all (p q : List Int) : hasF p q q.length [] = hasB p q := hasF_eq p q q.length []
end Go.Proofs.YtldknpjeegdbmaaGreat

/- The laws' own helpers for meshes: turned from N2. -/
namespace Go.Proofs.YtldknpjeegdbmaaGreat
set_option maxRecDepth 100000
open Go Go.RowKit






end Go.Proofs.YtldknpjeegdbmaaGreat

/- A list of rows that is sifted: some of its rows go into another list. -/
namespace Go.Proofs.YtldknpjeegdbmaaGreat
set_option maxRecDepth 100000
open Go Go.RowKit

/-- The rows of a list (blocks from a to b), and another outer slice beside them. -/
structure Sift (w : World) (lo a b : Nat) (rs : List Row) (o : Outer) (A : Option Addr) (c : Nat) (vs : List Value) : Prop where
  rows : Own w a b rs [o]
  out : w.ownsRow lo 24 1 (.slice A vs.length c) vs.length vs
  off : ∀ g, (Value.slice A vs.length c).ownBlock = some g → g < a ∨ b ≤ g

section
variable {w w' : World} {lo a b : Nat} {rs : List Row} {o : Outer} {A : Option Addr} {c : Nat} {vs : List Value}
theorem Sift.below (h : Sift w lo a b rs o A c vs) (hb : Below w.heap.size w w') : Sift w' lo a b rs o A c vs := ⟨h.rows.below hb, own_below h.out hb, h.off⟩
theorem Sift.dr (h : Sift w lo a b rs o A c vs) (hd : Dr w w') : Sift w' lo a b rs o A c vs := ⟨h.rows.dr hd, hd.own h.out, h.off⟩
theorem Sift.outN {n : Nat} (h : Sift w lo a b rs o A c vs) (hn : vs.length = n) : w.ownsRow lo 24 1 (.slice A n c) n vs := by subst hn; exact h.out
theorem Sift.grow {n : Nat} {u v1 : Value} {ob : Obj} (h : Sift w lo a b rs o A c vs) (hb : b ≤ w.heap.size) (hn : vs.length = n)
    (h1 : w'.ownsRow lo 24 1 v1 (n + 1) (vs ++ [u])) (hg : (w.alloc ob).grownBy w' (Value.slice A n c).ownBlock) (hat : v1.ownBlock = (Value.slice A n c).ownBlock ∨ v1.ownBlock = some (w.alloc ob).heap.size) :
    ∃ A1 c1, v1 = .slice A1 (n + 1) c1 ∧ Sift w' lo a b rs o A1 c1 (vs ++ [u]) ∧ w.grownBy w' (Value.slice A n c).ownBlock := by
  subst hn
  obtain ⟨A1, c1, rfl, _, _⟩ := own_shape h1
  have hg2 : w.grownBy w' (Value.slice A vs.length c).ownBlock := grown_trans (World.grownBy_alloc w ob _) hg
  refine ⟨A1, c1, rfl, ⟨?_, by simpa using h1, fun g hgg => ?_⟩, hg2⟩
  · rcases hv : (Value.slice A vs.length c).ownBlock with _ | g
    · rw [hv] at hg2
      exact h.rows.below (below_none hg2)
    · rw [hv] at hg2
      have hoff := h.off g hv
      exact h.rows.span (Span.of_grown (lo := g) (hi := g + 1) hg2 (fun q hq => by injection hq with hq; omega)) (by omega)
  · have hgg' : (Value.slice A1 (vs.length + 1) c1).ownBlock = some g := by simpa [Value.ownBlock] using hgg
    rcases hat with e | e
    · rw [e] at hgg'; exact h.off g hgg'
    · rw [e] at hgg'
      injection hgg' with hgg'
      simp at hgg'
      exact .inr (by omega)
theorem Sift.olim {n : Nat} (h : Sift w lo a b rs o A c vs) (hn : vs.length = n) : ∀ g, (Value.slice A n c).ownBlock = some g → lo ≤ g := fun g hg => by
  subst hn
  exact (h.out.lt g hg).1
theorem Sift.done {rs' : List Row} (h : Sift w lo a b rs o A c vs) (hv : vs = rs'.map Row.v) (hs : rs'.Sublist rs) (hlo : lo ≤ a) (hb : b ≤ w.heap.size) : Own w lo w.heap.size rs' [⟨A, c, rs'.map Row.v⟩] := by
  subst hv
  exact ((h.rows.bare.sub hs).wider hlo hb).with_ h.out (Nat.le_refl _)
/-- The list is there; the other one is the empty literal that lay before it. -/
theorem Sift.start {w0 : World} (h : Own w a b rs [o]) (ho : w0.ownsRow lo 24 1 (.slice A 0 c) 0 []) (hb : Below w0.heap.size w0 w) (ha : w0.heap.size ≤ a) : Sift w lo a b rs o A c [] :=
  ⟨h, own_below ho hb, fun g hg => .inl (by have := (ho.lt g hg).2; omega)⟩
end
end Go.Proofs.YtldknpjeegdbmaaGreat
