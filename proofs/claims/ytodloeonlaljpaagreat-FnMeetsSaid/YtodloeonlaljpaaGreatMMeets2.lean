/- Several texts in one, each with its own head: P1, P2, P2b, Q1, M2, P3, N1, R3, R4, R5. No program of ours. -/
import Derived.BigQuiet
import Derived.Test.YtodloeonlaljpaaGreatProg
import Derived.Test.YtodloeonlaljpaaGreatMMeets1
/- Plain: what a permutation is; contracts of IsPerm, program and reference. -/
namespace Go.Proofs.YtodloeonlaljpaaGreat
set_option maxRecDepth 100000
open Go Go.RowKit

theorem own_putB {α : Type} {f : α → Value} {w : World} {base e g n cap : Nat} {xs : List α} (h : w.ownsRow base e 1 (.slice (some ⟨g, 0, none⟩) n cap) n (xs.map f)) (j : Nat) (hj : j < xs.length) (x : α) :
    w.cell? ⟨g, j, none⟩ = some (f xs[j]) ∧ w.frozen? ⟨g, j, none⟩ = false ∧ (w.setCell ⟨g, j, none⟩ (f x)).ownsRow base e 1 (.slice (some ⟨g, 0, none⟩) n cap) n ((xs.set j x).map f) := by
  have hl := own_len h
  simp only [List.length_map] at hl
  refine ⟨?_, h.frozenAt j, ?_⟩
  · rw [h.cellAt j (by omega)]; simp [hj]
  · rw [List.map_set]; exact (h.stored j (f x)).1

def permB (xs : List Int) : Bool := decide (xs.length ≤ 8 ∧ (∀ v ∈ xs, 1 ≤ v ∧ v ≤ xs.length) ∧ xs.Nodup)

theorem permB_true {xs : List Int} (h : permB xs = true) : xs.length ≤ 8 ∧ (∀ v ∈ xs, 1 ≤ v ∧ v ≤ xs.length) ∧ xs.Nodup := by simpa [permB] using h

theorem nodup_snoc (xs : List Int) (x : Int) : (xs ++ [x]).Nodup ↔ xs.Nodup ∧ x ∉ xs := by
  rw [List.nodup_append]
  simp only [List.mem_singleton]
  constructor
  · rintro ⟨h1, _, h3⟩; exact ⟨h1, fun hx => h3 x hx x rfl rfl⟩
  · rintro ⟨h1, h2⟩; exact ⟨h1, by simp, fun a ha b hb e => h2 (by subst hb; subst e; exact ha)⟩

/-- One element more has been looked at and found right. -/
theorem perm_step {xs : List Int} {k : Nat} (hk : k < xs.length) (h1 : ∀ v ∈ xs.take k, 1 ≤ v ∧ v ≤ xs.length) (h2 : (xs.take k).Nodup) (h3 : 1 ≤ xs[k] ∧ xs[k] ≤ xs.length) (h4 : xs[k] ∉ xs.take k) :
    (∀ v ∈ xs.take (k + 1), 1 ≤ v ∧ v ≤ xs.length) ∧ (xs.take (k + 1)).Nodup := by
  rw [List.take_succ_eq_append_getElem hk]
  exact ⟨fun v hv => by
    rcases List.mem_append.1 hv with h | h
    · exact h1 v h
    · rw [List.mem_singleton.1 h]; exact h3, (nodup_snoc _ _).2 ⟨h2, h4⟩⟩
theorem perm_bad1 {xs : List Int} {k : Nat} (hk : k < xs.length) (h3 : ¬ (1 ≤ xs[k] ∧ xs[k] ≤ xs.length)) : permB xs = false := by
  unfold permB
  rw [decide_eq_false_iff_not]
  rintro ⟨_, h, _⟩
  exact h3 (h _ (List.getElem_mem hk))
theorem perm_bad2 {xs : List Int} {k : Nat} (hk : k < xs.length) (h4 : xs[k] ∈ xs.take k) : permB xs = false := by
  unfold permB
  rw [decide_eq_false_iff_not]
  rintro ⟨_, _, h⟩
  have h' := (List.take_sublist (k + 1) xs).nodup h
  rw [List.take_succ_eq_append_getElem hk] at h'
  exact ((nodup_snoc _ _).1 h').2 h4
theorem perm_all {xs : List Int} (h0 : xs.length ≤ 8) (h1 : ∀ v ∈ xs.take xs.length, 1 ≤ v ∧ v ≤ xs.length) (h2 : (xs.take xs.length).Nodup) : permB xs = true := by
  rw [List.take_length] at h1 h2
  unfold permB
  rw [decide_eq_true_eq]
  exact ⟨h0, h1, h2⟩

set_option maxHeartbeats 400000 in
theorem l2Has_any (A : Option Addr) (c n : Nat) (xs : List Int) (x : Int) (w : World) (hn : xs.length = n) (hl : n ≤ 4611686018427387904) (hx : Rd (Value.int .i64) w w.heap.size A xs) :
    Calls Tryz.prog 104 #[.slice A n c, .int .i64 x] w fun e w' => e = .returned (.bool (decide (x ∈ xs))) ∧ w = w' := by
  subst hn
  go_enter Tryz.func104, Tryz.ntmps104
  go_wp2
  go_loop [5] (fun i => ∃ k : Nat, k ≤ xs.length ∧ i = .int .i64 k ∧ x ∉ xs.take k) (fun i => xs.length - (intOf i).toNat)
  case atStart => exact ⟨0, Nat.zero_le _, rfl, by simp⟩
  case round =>
    obtain ⟨k, hk, rfl, hno⟩ := hrel
    have HN := Lib.hid hno
    clear hno
    rcases Nat.lt_or_ge k xs.length with hlt | hge
    · obtain ⟨b, off, rfl, _, hc⟩ := hx (by omega)
      have c1 := hc k hlt
      clear hc
      by_cases he : xs[k] = x
      · have hd : (xs[k] == x) = true := by simp [he]
        have HE := Lib.hid he
        clear he
        go_wp2
        go_ret
        exact ⟨ret_bool (by symm; rw [decide_eq_true_eq, ← HE.out]; exact List.getElem_mem hlt), rfl⟩
      · have hd : (xs[k] == x) = false := by simp [he]
        have HE := Lib.hid he
        clear he
        go_wp2
        go_round
        case rel => exact ⟨k + 1, by omega, by go_num, by rw [List.take_succ_eq_append_getElem hlt]; intro hm; rcases List.mem_append.1 hm with h | h; exact HN.out h; exact HE.out (List.mem_singleton.1 h).symm⟩
        case measure => simp [intOf]; omega
    · go_wp2
      go_ret
      exact ⟨ret_bool (by symm; rw [decide_eq_false_iff_not]; have := HN.out; rwa [List.take_of_length_le hge] at this), rfl⟩

set_option maxHeartbeats 800000 in
theorem isPerm_spec (A : Option Addr) (c : Nat) (xs : List Int) (w : World) (h : In w A c xs) :
    Calls Tryz.prog 66 #[.slice A xs.length c] w (Rq w (.bool (permB xs))) := by
  obtain ⟨hl, hcap, hx⟩ := h
  rcases Nat.lt_or_ge 8 xs.length with h8 | h8
  · have HP := Lib.hid (show permB xs = false by unfold permB; rw [decide_eq_false_iff_not]; omega)
    go_enter Tryz.func66, Tryz.ntmps66
    go_wp2
    refine wp_loop_rounds 1 ?_
    rw [rounds_succ]
    go_wp2
    go_ret
    exact ⟨ret_bool (by rw [HP.out]; simp; omega), Dr.refl _⟩
  · go_enter Tryz.func66, Tryz.ntmps66
    go_wp2
    go_loopw [3] (fun i wr => ∃ k : Nat, k ≤ xs.length ∧ i = .int .i64 k ∧ (∀ v ∈ xs.take k, 1 ≤ v ∧ v ≤ xs.length) ∧ (xs.take k).Nodup ∧ Dr w wr) (fun i _ => xs.length - (intOf i).toNat)
    case atStart => exact ⟨0, Nat.zero_le _, rfl, by simp, by simp, Dr.refl _⟩
    case round =>
      obtain ⟨k, hk, rfl, h1, h2, hd⟩ := hrel
      have H1 := Lib.hid h1
      have H2 := Lib.hid h2
      have hxr := hx.dr hd
      rw [← hd.heap] at hxr
      have HX := Lib.hid hxr
      clear h1 h2 hxr
      rcases Nat.lt_or_ge k xs.length with hlt | hge
      · obtain ⟨b, off, rfl, hbb, hc⟩ := HX.out (by omega)
        have c1 := hc k hlt
        clear hc
        by_cases h3 : 1 ≤ xs[k] ∧ xs[k] ≤ xs.length
        · have d3 : decide (1 ≤ xs[k] ∧ xs[k] ≤ (xs.length : Int)) = true := by simp [h3]
          have H3 := Lib.hid h3
          clear h3
          have hc0 : ¬ c = 0 := by omega
          have hkc : k ≤ c := by omega
          have hrt : Rd (Value.int .i64) wr wr.heap.size (some ⟨b, off, none⟩) (xs.take k) := HX.out.take k
          have HR := Lib.hid hrt
          have hlen : (xs.take k).length = k := by simp; omega
          have HLEN := Lib.hid hlen
          have hk4 : k ≤ 4611686018427387904 := by omega
          clear hrt hlen
          by_cases h4 : xs[k] ∈ xs.take k
          · have d4 : decide (xs[k] ∈ xs.take k) = true := by simp [h4]
            have H4 := Lib.hid h4
            clear h4
            go_wp2
            go_quiet ((first | (go_at_call 50; exact quiet_eq (l1In_any _ _ _ _)) | (go_at_call 104; exact quiet_eq (l2Has_any _ _ _ (xs.take k) _ _ HLEN.out hk4 HR.out))))
            go_wp2
            go_ret
            exact ⟨ret_bool (perm_bad2 hlt H4.out).symm, (by first | with_reducible assumption | with_reducible exact hd | with_reducible exact Dr.drewN hd _ | with_reducible exact Dr.drewN (Dr.drewN hd _) _ | with_reducible exact Dr.drew hd)⟩
          · have d4 : decide (xs[k] ∈ xs.take k) = false := by simp [h4]
            have H4 := Lib.hid h4
            clear h4
            go_wp2
            go_quiet ((first | (go_at_call 50; exact quiet_eq (l1In_any _ _ _ _)) | (go_at_call 104; exact quiet_eq (l2Has_any _ _ _ (xs.take k) _ _ HLEN.out hk4 HR.out))))
            go_wp2
            go_roundw
            case rel => exact ⟨k + 1, by omega, by go_num, (perm_step hlt H1.out H2.out H3.out H4.out).1, (perm_step hlt H1.out H2.out H3.out H4.out).2, (by first | with_reducible assumption | with_reducible exact hd | with_reducible exact Dr.drewN hd _ | with_reducible exact Dr.drewN (Dr.drewN hd _) _ | with_reducible exact Dr.drew hd)⟩
            case measure => simp [intOf]; omega
        · have d3 : decide (1 ≤ xs[k] ∧ xs[k] ≤ (xs.length : Int)) = false := by rw [decide_eq_false_iff_not]; exact h3
          have H3 := Lib.hid h3
          clear h3
          go_wp2
          go_quiet ((go_at_call 50; exact quiet_eq (l1In_any _ _ _ _)))
          go_wp2
          go_ret
          exact ⟨ret_bool (perm_bad1 hlt H3.out).symm, (by first | with_reducible assumption | with_reducible exact hd | with_reducible exact Dr.drewN hd _ | with_reducible exact Dr.drewN (Dr.drewN hd _) _ | with_reducible exact Dr.drew hd)⟩
      · obtain rfl : k = xs.length := by omega
        go_wp2
        go_ret
        exact ⟨ret_bool (by rw [perm_all h8 H1.out H2.out]; simp; omega), (by first | with_reducible assumption | with_reducible exact hd | with_reducible exact Dr.drewN hd _ | with_reducible exact Dr.drewN (Dr.drewN hd _) _ | with_reducible exact Dr.drew hd)⟩

theorem infoB : (Tryz.prog.info? 4).map (fun i => (i.zero, i.size, i.bytes)) = some (some (.bool false), 1, 1) := by kernel_rfl
def seenL (xs : List Int) (k : Nat) : List Bool := (List.range (xs.length + 1)).map fun v : Nat => decide ((v : Int) ∈ xs.take k)
theorem seenL_length (xs : List Int) (k : Nat) : (seenL xs k).length = xs.length + 1 := by simp [seenL]
theorem seenL_get (xs : List Int) (k v : Nat) (h : v < (seenL xs k).length) : (seenL xs k)[v] = decide ((v : Int) ∈ xs.take k) := by simp [seenL]
theorem seenL_zero (xs : List Int) : seenL xs 0 = List.replicate (xs.length + 1) false := by
  apply List.ext_getElem
  · simp [seenL]
  · intro i h1 h2; rw [seenL_get]; simp
theorem seenL_set (xs : List Int) (k v : Nat) (hk : k < xs.length) (hv : xs[k] = (v : Int)) : (seenL xs k).set v true = seenL xs (k + 1) := by
  apply List.ext_getElem
  · simp [seenL]
  · intro i h1 h2
    rw [List.getElem_set, seenL_get _ _ _ (by rw [seenL_length] at *; exact h2), seenL_get, List.take_succ_eq_append_getElem hk, hv]
    by_cases e : v = i
    · subst e; simp
    · rw [if_neg e]
      have : ¬ (i : Int) = (v : Int) := by omega
      simp [this]
theorem made_falses {w : World} {base e n : Nat} {v : Value} (h : w.ownsRow base e 1 v n (madeCells (Value.bool false).cells (n * 1)).toList) : w.ownsRow base e 1 v n ((List.replicate n false).map Value.bool) := by
  rw [show (Value.bool false).cells = #[.bool false] from rfl, toList_madeCells_one, Nat.mul_one] at h
  simpa using h
def permL (xs : List Int) : Bool := decide ((∀ v ∈ xs, 1 ≤ v ∧ v ≤ xs.length) ∧ xs.Nodup)
theorem permB_permL (xs : List Int) (h : xs.length ≤ 8) : permL xs = permB xs := by simp [permL, permB, h]
theorem permL_bad1 {xs : List Int} {k : Nat} (hk : k < xs.length) (h3 : ¬ (1 ≤ xs[k] ∧ xs[k] ≤ xs.length)) : permL xs = false := by
  unfold permL
  rw [decide_eq_false_iff_not]
  rintro ⟨h, _⟩
  exact h3 (h _ (List.getElem_mem hk))
theorem permL_bad2 {xs : List Int} {k : Nat} (hk : k < xs.length) (h4 : xs[k] ∈ xs.take k) : permL xs = false := by
  unfold permL
  rw [decide_eq_false_iff_not]
  rintro ⟨_, h⟩
  have h' := (List.take_sublist (k + 1) xs).nodup h
  rw [List.take_succ_eq_append_getElem hk] at h'
  exact ((nodup_snoc _ _).1 h').2 h4
theorem permL_all {xs : List Int} (h1 : ∀ v ∈ xs.take xs.length, 1 ≤ v ∧ v ≤ xs.length) (h2 : (xs.take xs.length).Nodup) : permL xs = true := by
  rw [List.take_length] at h1 h2
  unfold permL
  rw [decide_eq_true_eq]
  exact ⟨h1, h2⟩

set_option maxHeartbeats 800000 in
theorem isPermL_impl (A : Option Addr) (c : Nat) (xs : List Int) (w : World) (h : In w A c xs) :
    Calls Tryz.prog 108 #[.slice A xs.length c] w (Rb w (.bool (permL xs))) := by
  obtain ⟨i0, hi, hz0, hz1, hz2⟩ := info_parts infoB
  obtain ⟨hl, _, hx⟩ := h
  go_enter Tryz.func108, Tryz.ntmps108
  go_wp2_with (at_make; refine wpList_make_full _ rfl _ _ 90 rfl (w.heap.size) 4 i0 (.bool false) 1 Tryz.underlying90 hi hz0 hz1 .i64 .i64 _ _ (xs.length + 1) rfl rfl (by omega) (by omega) (by rw [hz2]; omega) (by unfold maxLen; omega) (by omega) ?_; intro w1 hown1 hgrow1)
  have hown := made_falses hown1
  rw [← seenL_zero] at hown
  have hb := below_none hgrow1
  clear hown1 hgrow1
  go_wp2
  go_loopw [12] (fun i wr => ∃ k : Nat, k ≤ xs.length ∧ i = .int .i64 k ∧ (∀ v ∈ xs.take k, 1 ≤ v ∧ v ≤ xs.length) ∧ (xs.take k).Nodup ∧ wr.ownsRow w.heap.size 4 1 (.slice (some ⟨w.heap.size, 0, none⟩) (xs.length + 1) (xs.length + 1)) (xs.length + 1) ((seenL xs k).map Value.bool) ∧ Below w.heap.size w wr) (fun i _ => xs.length - (intOf i).toNat)
  case atStart => exact ⟨0, Nat.zero_le _, rfl, by simp, by simp, hown, hb⟩
  case round =>
    clear hown hb
    obtain ⟨k, hk, rfl, h1, h2, hown, hb⟩ := hrel
    have H1 := Lib.hid h1
    have H2 := Lib.hid h2
    have HX := Lib.hid (hx.below hb)
    clear h1 h2
    rcases Nat.lt_or_ge k xs.length with hlt | hge
    · obtain ⟨b, off, rfl, hbb, hc⟩ := HX.out (by omega)
      have c1 := hc k hlt
      clear hc
      by_cases h3 : 1 ≤ xs[k] ∧ xs[k] ≤ xs.length
      · obtain ⟨v, hv⟩ := Int.eq_ofNat_of_zero_le (show 0 ≤ xs[k] by omega)
        have H3 := Lib.hid h3
        have hvl : v < (seenL xs k).length := by rw [seenL_length]; omega
        have hv1 : 1 ≤ v := by omega
        have hv2 : v ≤ xs.length := by omega
        have HS := Lib.hid (seenL_set xs k v hlt hv)
        rw [hv] at c1
        obtain ⟨p1, p2, p3⟩ := own_putB hown v hvl true
        rw [seenL_get] at p1
        have HV := Lib.hid hv
        clear h3 hv
        by_cases h4 : (v : Int) ∈ xs.take k
        · rw [decide_eq_true h4] at p1
          have H4 := Lib.hid h4
          clear h4 p3 hown hvl
          go_wp2
          go_ret
          exact ⟨ret_bool (permL_bad2 hlt (by rw [HV.out]; exact H4.out)).symm, hb⟩
        · rw [decide_eq_false h4] at p1
          have H4 := Lib.hid h4
          have P3 := Lib.hid p3
          have B2 := Lib.hid (hb.setCell (p := ⟨w.heap.size, v, none⟩) (Nat.le_refl _) (.bool true))
          clear h4 p3 hown hvl hb
          go_wp2
          go_roundw
          case rel => exact ⟨k + 1, by omega, by go_num, (perm_step hlt H1.out H2.out H3.out (by rw [HV.out]; exact H4.out)).1, (perm_step hlt H1.out H2.out H3.out (by rw [HV.out]; exact H4.out)).2, by rw [← HS.out]; exact P3.out, B2.out⟩
          case measure => simp [intOf]; omega
      · have H3 := Lib.hid h3
        by_cases h5 : xs[k] < 1
        · clear h3
          go_wp2
          go_ret
          exact ⟨ret_bool (permL_bad1 hlt H3.out).symm, hb⟩
        · have h6 : (xs.length : Int) < xs[k] := by omega
          clear h3
          go_wp2
          go_ret
          exact ⟨ret_bool (permL_bad1 hlt H3.out).symm, hb⟩
    · obtain rfl : k = xs.length := by omega
      go_wp2
      go_ret
      exact ⟨ret_bool (permL_all H1.out H2.out).symm, hb⟩

set_option maxHeartbeats 400000 in
theorem isPerm_impl (A : Option Addr) (c : Nat) (xs : List Int) (w : World) (h : In w A c xs) :
    Calls Tryz.prog 71 #[.slice A xs.length c] w (Rb w (.bool (permB xs))) := by
  have hl := h.len
  rcases Nat.lt_or_ge 8 xs.length with h8 | h8
  · have HP := Lib.hid (show permB xs = false by unfold permB; rw [decide_eq_false_iff_not]; omega)
    have hd8 : decide ((xs.length : Int) ≤ 8) = false := by simp; omega
    go_enter Tryz.func71, Tryz.ntmps71
    go_wp2_with fail
    go_ret
    exact ⟨ret_bool HP.out.symm, Below.refl _ _⟩
  · have HP := Lib.hid (permB_permL xs h8)
    have hd8 : decide ((xs.length : Int) ≤ 8) = true := by simp; omega
    go_enter Tryz.func71, Tryz.ntmps71
    go_wp2_with fail
    refine (isPermL_impl _ _ _ _ h).mono ?_
    rintro e w1 ⟨rfl, hb⟩
    go_wp2_with fail
    go_ret
    exact ⟨ret_bool HP.out, hb⟩
end Go.Proofs.YtodloeonlaljpaaGreat

/- Contracts of the statistics that list places: listed and its closures; DescentsOf, LowsOf, RecordsOf, CountFixed, CountRises, MajorOf; program. -/
namespace Go.Proofs.YtodloeonlaljpaaGreat
set_option maxRecDepth 100000
open Go Go.RowKit

/-- The places, counted from 1, of which H holds, of the first n. -/
def placesL (H : Nat → Bool) (n : Nat) : List Int := ((List.range n).filter H).map fun i : Nat => (i : Int) + 1
theorem placesL_succ (H : Nat → Bool) (n : Nat) : placesL H (n + 1) = if H n then placesL H n ++ [(n : Int) + 1] else placesL H n := by
  unfold placesL
  rw [List.range_succ, List.filter_append]
  by_cases h : H n <;> simp [h]
theorem placesL_length (H : Nat → Bool) (n : Nat) : (placesL H n).length ≤ n := by
  unfold placesL
  rw [List.length_map]
  exact Nat.le_trans (List.length_filter_le _ _) (by simp)
theorem placesL_congr {H K : Nat → Bool} {n : Nat} (h : ∀ i, i < n → H i = K i) : placesL H n = placesL K n := by
  unfold placesL
  congr 1
  exact List.filter_congr fun x hx => h x (List.mem_range.1 hx)

def listG (xs : List Int) (H : Nat → Bool) : List Int := if permB xs = true then placesL H xs.length else []
theorem listG_length (xs : List Int) (H : Nat → Bool) : (listG xs H).length ≤ 8 := by
  unfold listG
  split
  · rename_i h
    have := placesL_length H xs.length
    have := (permB_true h).1
    omega
  · simp


theorem alloc_cell (w : World) (v : Value) (t : TypeId) : (w.alloc (.cells #[v] t)).cell? ⟨w.heap.size, 0, none⟩ = some v := by
  rw [World.cell?_alloc_at _ _ _ _ rfl]; rfl

/-- The captured slice and what it reads as, in a later world. -/
theorem cap_in {w w0 w' : World} {A : Option Addr} {c : Nat} {xs : List Int} {t : TypeId} (h : In w A c xs) (e : w0 = w.alloc (.cells #[.slice A xs.length c] t)) (hb : Below w0.heap.size w0 w') :
    In w' A c xs ∧ w'.cell? ⟨w.heap.size, 0, none⟩ = some (.slice A xs.length c) := by
  subst e
  have h1 : In (w.alloc (.cells #[.slice A xs.length c] t)) A c xs := h.next ((Below.refl _ _).alloc (Nat.le_refl _) _)
  exact ⟨h1.next hb, by rw [hb.cell (p := ⟨w.heap.size, 0, none⟩) (by simp)]; exact alloc_cell _ _ _⟩

end Go.Proofs.YtodloeonlaljpaaGreat

/- Contracts of LowsOf, RecordsOf, CountFixed, CountRises, MajorOf, inversions; program. -/
namespace Go.Proofs.YtodloeonlaljpaaGreat
set_option maxRecDepth 100000
open Go Go.RowKit







def countG (xs : List Int) (H : Nat → Bool) : Int := if permB xs = true then ((placesL H xs.length).length : Int) else -1



end Go.Proofs.YtodloeonlaljpaaGreat

/- Contracts of small list functions of Go's library and of the reference: Equal, l2Same, Clone, Index, Contains, identity, the patterns. -/
namespace Go.Proofs.YtodloeonlaljpaaGreat
set_option maxRecDepth 100000
open Go Go.RowKit

/-! append of a list that is read, nil or not, onto a row of the call's own (after the guide's page of words) -/
section
variable {P : Program} (w : World)
theorem run_append_of_nil (base : Nat) (t ty e : TypeId) (i : TypeInfo) (ht : P.underlying t = some (.slice e)) (hi : P.info? e = some i)
    (v : Value) (n : Nat) (xs : List Value) (hown : w.ownsRow base e 1 v n xs) (c : Nat) : (Builtin.append_ #[t, t] ty #[v, .slice none 0 c]).run P w = .ok v w := by
  rcases hown.2 with ⟨rfl, rfl⟩ | ⟨g, cap, cur, rfl, _, _, hnc, _⟩
  · simp [Builtin.append_, run_underlying ht, sizeOf, typeInfo, hi, Builtin.lenOf, Builtin.firstCells]
  · simp [Builtin.append_, run_underlying ht, sizeOf, typeInfo, hi, Builtin.lenOf, Builtin.firstCells, hnc, storeCells]
theorem run_append_rd {α : Type} {f : α → Value} (base : Nat) (t ty e : TypeId) (i : TypeInfo) (z : Value) (bytes : Nat) (ht : P.underlying t = some (.slice e)) (hi : P.info? e = some i) (hz : i.zero = some z)
    (hsize : i.size = 1) (hby : i.bytes = bytes) (hzs : z.cells.size = 1)
    (v : Value) (n : Nat) (xs : List Value) (hown : w.ownsRow base e 1 v n xs)
    (B : Nat) (A : Option Addr) (c m : Nat) (ys : List α) (hm : ys.length = m) (hr : Rd f w B A ys) (h1 : ∀ y, (f y).oneCell' = true)
    (h63 : n + m ≤ maxLen) (hbytes : (n + m) * bytes ≤ 140737488355328) (hbase : base ≤ w.heap.size) :
    ∃ v' w', (Builtin.append_ #[t, t] ty #[v, .slice A m c]).run P w = .ok v' w' ∧ w'.ownsRow base e 1 v' (n + m) (xs ++ ys.map f) ∧ w.grownBy w' v.ownBlock := by
  subst hm
  rcases Nat.eq_zero_or_pos ys.length with h0 | h0
  · have hy : ys = [] := List.eq_nil_of_length_eq_zero h0
    subst hy
    cases A with
    | none => exact ⟨v, w, run_append_of_nil w base t ty e i ht hi v n xs hown c, by simpa using hown, World.grownBy.refl w _⟩
    | some ad =>
      obtain ⟨v', w', hrun, h2, h3, _⟩ := run_append_own (P := P) w base t ty e i z 1 bytes ht hi hz hsize hby hzs (by omega) v n xs hown ad 0 c [] rfl (by intro j u h; simp at h) (by simp) (by simpa using h63) (by simpa using hbytes) hbase
      exact ⟨v', w', hrun, by simpa using h2, h3⟩
  · obtain ⟨b, off, rfl, _, hc⟩ := hr h0
    obtain ⟨v', w', hrun, h2, h3, _⟩ := run_append_own (P := P) w base t ty e i z 1 bytes ht hi hz hsize hby hzs (by omega) v n xs hown ⟨b, off, none⟩ ys.length c (ys.map f) (by simp) (fun j u hu => by
      rw [List.getElem?_map] at hu
      obtain ⟨y, hy, rfl⟩ := Option.map_eq_some_iff.1 hu
      obtain ⟨hj, rfl⟩ := List.getElem?_eq_some_iff.1 hy
      rw [Addr.add_lit]
      exact hc j hj) (by intro u hu; obtain ⟨y, _, rfl⟩ := List.mem_map.1 hu; exact h1 y) h63 hbytes hbase
    exact ⟨v', w', hrun, h2, h3⟩
theorem wpList_append_rd {α : Type} {f : α → Value} {ops : Array Oper} {rest : List Oper} {o : Oper} {a : Act} {Q : Exit → Act → World → Prop} (hgd : o.guard = none) (s x : Operand) (t : TypeId)
    (ho : o.op = .call { callee := .builtin .append, args := #[s, x], argTypes := #[t, t] })
    (base : Nat) (e : TypeId) (i : TypeInfo) (z : Value) (bytes : Nat) (ht : P.underlying t = some (.slice e)) (hi : P.info? e = some i) (hz : i.zero = some z)
    (hsize : i.size = 1) (hby : i.bytes = bytes) (hzs : z.cells.size = 1)
    (v : Value) (n : Nat) (xs : List Value) (hs : a.eval s = v) (hown : w.ownsRow base e 1 v n xs)
    (B : Nat) (A : Option Addr) (c m : Nat) (ys : List α) (hx : a.eval x = .slice A m c) (hm : ys.length = m) (hr : Rd f w B A ys) (h1 : ∀ y, (f y).oneCell' = true)
    (h63 : n + m ≤ maxLen) (hbytes : (n + m) * bytes ≤ 140737488355328) (hbase : base ≤ w.heap.size)
    (h : ∀ v' w', w'.ownsRow base e 1 v' (n + m) (xs ++ ys.map f) → w.grownBy w' v.ownBlock → wpList P ops Q rest (a.put o.dst v') w') : wpList P ops Q (o :: rest) a w := by
  refine wpList_plain hgd fun K hK => ?_
  obtain ⟨v', w', hr2, h2, h3⟩ := run_append_rd (P := P) w base t o.type e i z bytes ht hi hz hsize hby hzs v n xs hown B A c m ys hm hr h1 h63 hbytes hbase
  unfold Oper.wp execOp
  simp only [ho, resolve, invoke, builtin, Sem.run_bind, Sem.run_pure, Result.andThen_ok, List.map_toArray, List.map_cons, List.map_nil, hs, hx, hr2]
  exact hK _ _ (h v' w' h2 h3)
end

set_option maxHeartbeats 400000 in
theorem equal_any (A A' : Option Addr) (c c' n m : Nat) (xs ys : List Int) (w : World) (hn : xs.length = n) (hm : ys.length = m) (hl : n ≤ 4611686018427387904)
    (hx : Rd (Value.int .i64) w w.heap.size A xs) (hy : Rd (Value.int .i64) w w.heap.size A' ys) :
    Calls Tryz.prog 92 #[.slice A n c, .slice A' m c'] w (Rq w (.bool (decide (xs = ys)))) := by
  subst hn hm
  by_cases hne : xs.length = ys.length
  · go_enter Tryz.func92, Tryz.ntmps92
    have hb : ((xs.length : Int) != (ys.length : Int)) = false := by simp [hne]
    go_wp2
    go_loopw [13] (fun i wr => ∃ k : Nat, k ≤ xs.length ∧ i = .int .i64 k ∧ xs.take k = ys.take k ∧ Dr w wr) (fun i _ => xs.length - (intOf i).toNat)
    case atStart => exact ⟨0, Nat.zero_le _, rfl, rfl, Dr.refl _⟩
    case round =>
      obtain ⟨k, hk, rfl, ht, n, rfl⟩ := hrel
      rcases Nat.lt_or_ge k xs.length with hlt | hge
      · obtain ⟨b, off, rfl, hbb, hcx⟩ := hx (by omega)
        obtain ⟨b', off', rfl, hbb', hcy⟩ := hy (by omega)
        have hk2 : k < ys.length := by omega
        have hcxk := hcx k hlt
        have hcyk := hcy k hk2
        have hT := Lib.hid ht
        clear ht hcx hcy hne
        by_cases hd : xs[k] = ys[k]
        · have hdd : (xs[k] != ys[k]) = false := by simp [hd]
          have hD := Lib.hid hd
          clear hd
          go_wp2
          go_quiet (fail)
          go_wp2
          go_roundw
          case rel => exact ⟨k + 1, by omega, by go_num, by rw [List.take_succ_eq_append_getElem hlt, List.take_succ_eq_append_getElem hk2, hT.out, hD.out], (by first | with_reducible exact Dr.of _ _ | with_reducible exact Dr.of2 _ _ _ | with_reducible exact Dr.refl _ | with_reducible exact Dr.of3 _ _ _)⟩
          case measure => simp [intOf]; omega
        · have hdd : (xs[k] != ys[k]) = true := by simp [hd]
          have hD := Lib.hid hd
          clear hd
          go_wp2
          go_quiet (fail)
          go_wp2
          go_ret
          exact ⟨ret_bool (by symm; rw [decide_eq_false_iff_not]; intro h; exact hD.out (by simp [h])), (by first | with_reducible exact Dr.of _ _ | with_reducible exact Dr.of2 _ _ _ | with_reducible exact Dr.refl _ | with_reducible exact Dr.of3 _ _ _)⟩
      · have hT := Lib.hid ht
        clear ht
        go_wp2
        go_ret
        exact ⟨ret_bool (by symm; rw [decide_eq_true_eq]; have := hT.out; rwa [List.take_of_length_le hge, List.take_of_length_le (by omega)] at this), (by first | with_reducible exact Dr.of _ _ | with_reducible exact Dr.of2 _ _ _ | with_reducible exact Dr.refl _ | with_reducible exact Dr.of3 _ _ _)⟩
  · have hb : ((xs.length : Int) != (ys.length : Int)) = true := by simp; omega
    go_enter Tryz.func92, Tryz.ntmps92
    go_wp2
    go_ret
    exact ⟨ret_bool (by symm; rw [decide_eq_false_iff_not]; intro h; exact hne (by rw [h])), Dr.refl _⟩

set_option maxHeartbeats 400000 in
theorem l2Same_any (A A' : Option Addr) (c c' n m : Nat) (xs ys : List Int) (w : World) (hn : xs.length = n) (hm : ys.length = m) (hl : n ≤ 4611686018427387904)
    (hx : Rd (Value.int .i64) w w.heap.size A xs) (hy : Rd (Value.int .i64) w w.heap.size A' ys) :
    Calls Tryz.prog 93 #[.slice A n c, .slice A' m c'] w (Rq w (.bool (decide (xs = ys)))) := by
  subst hn hm
  by_cases hne : xs.length = ys.length
  · go_enter Tryz.func93, Tryz.ntmps93
    have hb : ((xs.length : Int) != (ys.length : Int)) = false := by simp [hne]
    go_wp2
    go_loopw [5] (fun i wr => ∃ k : Nat, k ≤ xs.length ∧ i = .int .i64 k ∧ xs.take k = ys.take k ∧ Dr w wr) (fun i _ => xs.length - (intOf i).toNat)
    case atStart => exact ⟨0, Nat.zero_le _, rfl, rfl, Dr.refl _⟩
    case round =>
      obtain ⟨k, hk, rfl, ht, n, rfl⟩ := hrel
      rcases Nat.lt_or_ge k xs.length with hlt | hge
      · obtain ⟨b, off, rfl, hbb, hcx⟩ := hx (by omega)
        obtain ⟨b', off', rfl, hbb', hcy⟩ := hy (by omega)
        have hk2 : k < ys.length := by omega
        have hcxk := hcx k hlt
        have hcyk := hcy k hk2
        have hT := Lib.hid ht
        clear ht hcx hcy hne
        by_cases hd : xs[k] = ys[k]
        · have hdd : (xs[k] != ys[k]) = false := by simp [hd]
          have hD := Lib.hid hd
          clear hd
          go_wp2
          go_quiet (fail)
          go_wp2
          go_roundw
          case rel => exact ⟨k + 1, by omega, by go_num, by rw [List.take_succ_eq_append_getElem hlt, List.take_succ_eq_append_getElem hk2, hT.out, hD.out], (by first | with_reducible exact Dr.of _ _ | with_reducible exact Dr.of2 _ _ _ | with_reducible exact Dr.refl _ | with_reducible exact Dr.of3 _ _ _)⟩
          case measure => simp [intOf]; omega
        · have hdd : (xs[k] != ys[k]) = true := by simp [hd]
          have hD := Lib.hid hd
          clear hd
          go_wp2
          go_quiet (fail)
          go_wp2
          go_ret
          exact ⟨ret_bool (by symm; rw [decide_eq_false_iff_not]; intro h; exact hD.out (by simp [h])), (by first | with_reducible exact Dr.of _ _ | with_reducible exact Dr.of2 _ _ _ | with_reducible exact Dr.refl _ | with_reducible exact Dr.of3 _ _ _)⟩
      · have hT := Lib.hid ht
        clear ht
        go_wp2
        go_ret
        exact ⟨ret_bool (by symm; rw [decide_eq_true_eq]; have := hT.out; rwa [List.take_of_length_le hge, List.take_of_length_le (by omega)] at this), (by first | with_reducible exact Dr.of _ _ | with_reducible exact Dr.of2 _ _ _ | with_reducible exact Dr.refl _ | with_reducible exact Dr.of3 _ _ _)⟩
  · have hb : ((xs.length : Int) != (ys.length : Int)) = true := by simp; omega
    go_enter Tryz.func93, Tryz.ntmps93
    go_wp2
    go_ret
    exact ⟨ret_bool (by symm; rw [decide_eq_false_iff_not]; intro h; exact hne (by rw [h])), Dr.refl _⟩

theorem equal_b (A A' : Option Addr) (c c' n m : Nat) (xs ys : List Int) (w : World) (b : Bool) (hn : xs.length = n) (hm : ys.length = m) (hl : n ≤ 4611686018427387904)
    (hx : Rd (Value.int .i64) w w.heap.size A xs) (hy : Rd (Value.int .i64) w w.heap.size A' ys) (hb : decide (xs = ys) = b) :
    Calls Tryz.prog 92 #[.slice A n c, .slice A' m c'] w (Rq w (.bool b)) := by
  subst hb
  exact equal_any A A' c c' n m xs ys w hn hm hl hx hy

theorem l2Same_b (A A' : Option Addr) (c c' n m : Nat) (xs ys : List Int) (w : World) (b : Bool) (hn : xs.length = n) (hm : ys.length = m) (hl : n ≤ 4611686018427387904)
    (hx : Rd (Value.int .i64) w w.heap.size A xs) (hy : Rd (Value.int .i64) w w.heap.size A' ys) (hb : decide (xs = ys) = b) :
    Calls Tryz.prog 93 #[.slice A n c, .slice A' m c'] w (Rq w (.bool b)) := by
  subst hb
  exact l2Same_any A A' c c' n m xs ys w hn hm hl hx hy

set_option maxHeartbeats 400000 in
theorem clone_any (A : Option Addr) (c : Nat) (xs : List Int) (w : World) (h : In w A c xs) :
    Calls Tryz.prog 81 #[.slice A xs.length c] w (Ret (Value.int .i64) 3 w xs) := by
  obtain ⟨i0, hi, hz0, hz1, hz2⟩ := info_parts infoI
  obtain ⟨hl, hcap, hx⟩ := h
  have hnil := fun (w : World) (a : Option Addr) (l c : Nat) => Lib.run_eql_slice_nil (P := Tryz.prog) w 36 3 a l c 0 0 Tryz.underlying36
  cases A with
  | none =>
    have hx0 : xs = [] := by
      rcases Nat.eq_zero_or_pos xs.length with h0 | h0
      · exact List.eq_nil_of_length_eq_zero h0
      · obtain ⟨b, off, he, _⟩ := hx h0
        cases he
    subst hx0
    go_enter Tryz.func81, Tryz.ntmps81
    go_wp2
    go_ret
    exact ⟨none, 0, rfl, Nat.le_refl _, Nat.zero_le _, World.ownsRow_nil _ _ _ _, Below.refl _ _⟩
  | some ad =>
    have hown0 : (w.alloc (.cells #[] 3)).ownsRow w.heap.size 3 1 (.slice (some ⟨w.heap.size, 0, none⟩) 0 0) 0 [] := World.ownsRow_lit w #[] 0 (Nat.le_refl _) (by unfold maxLen; omega) rfl
    have hb0 := (Below.refl w.heap.size w).alloc (Nat.le_refl _) (.cells #[] 3)
    have hx0 := hx.alloc (Nat.le_refl _) (.cells #[] 3)
    go_enter Tryz.func81, Tryz.ntmps81
    go_wp2_with (at_builtin; refine wpList_append_rd _ rfl _ _ 36 rfl (w.heap.size) 3 i0 (.int .i64 0) 8 Tryz.underlying36 hi hz0 hz1 hz2 rfl _ _ _ rfl hown0 _ _ _ _ (xs) rfl rfl hx0 (fun _ => rfl) (by unfold maxLen; omega) (by omega) (by first | omega | (simp; done) | (simp; omega)) ?_; intro v1 w1 hown1 hgrow1)
    have hb1 := hb0.grown hgrow1 (by simp) (by intro g hg; exact (hown0.lt g hg).1)
    simp only [Nat.zero_add, List.nil_append] at hown1
    obtain ⟨A1, c1, rfl, q1, q2⟩ := own_shape hown1
    go_wp2
    go_ret
    exact ⟨A1, c1, rfl, q1, q2, hown1, hb1⟩

def idxL (xs : List Int) (x : Int) : Int := if x ∈ xs then (xs.idxOf x : Int) else -1
set_option maxHeartbeats 400000 in
theorem index_any (A : Option Addr) (c n : Nat) (xs : List Int) (x : Int) (w : World) (hn : xs.length = n) (hl : n ≤ 4611686018427387904) (hx : Rd (Value.int .i64) w w.heap.size A xs) :
    Calls Tryz.prog 113 #[.slice A n c, .int .i64 x] w fun e w' => e = .returned (.int .i64 (idxL xs x)) ∧ w = w' := by
  subst hn
  go_enter Tryz.func113, Tryz.ntmps113
  go_wp2
  go_loop [8] (fun i => ∃ k : Nat, k ≤ xs.length ∧ i = .int .i64 k ∧ x ∉ xs.take k) (fun i => xs.length - (intOf i).toNat)
  case atStart => exact ⟨0, Nat.zero_le _, rfl, by simp⟩
  case round =>
    obtain ⟨k, hk, rfl, hno⟩ := hrel
    have HN := Lib.hid hno
    clear hno
    rcases Nat.lt_or_ge k xs.length with hlt | hge
    · obtain ⟨b, off, rfl, _, hc⟩ := hx (by omega)
      have c1 := hc k hlt
      clear hc
      by_cases he : x = xs[k]
      · have hd : (x == xs[k]) = true := by simp [he]
        have HI := Lib.hid (show idxL xs x = k by
          have hm : x ∈ xs := by rw [he]; exact List.getElem_mem hlt
          have h1 : xs = xs.take k ++ (x :: xs.drop (k + 1)) := by rw [he, ← List.drop_eq_getElem_cons hlt, List.take_append_drop]
          rw [idxL, if_pos hm]
          conv => lhs; rw [h1]
          rw [List.idxOf_append, if_neg HN.out, List.idxOf_cons_self]
          simp; omega)
        clear he
        go_wp2
        go_ret
        exact ⟨ret_int HI.out.symm, rfl⟩
      · have hd : (x == xs[k]) = false := by simp [he]
        have HE := Lib.hid he
        clear he
        go_wp2
        go_round
        case rel => exact ⟨k + 1, by omega, by go_num, by rw [List.take_succ_eq_append_getElem hlt]; intro hm; rcases List.mem_append.1 hm with h | h; exact HN.out h; exact HE.out (List.mem_singleton.1 h)⟩
        case measure => simp [intOf]; omega
    · have HI := Lib.hid (show idxL xs x = -1 by rw [idxL, if_neg]; have := HN.out; rwa [List.take_of_length_le hge] at this)
      go_wp2
      go_ret
      exact ⟨ret_int HI.out.symm, rfl⟩

theorem contains_any (A : Option Addr) (c n : Nat) (xs : List Int) (x : Int) (w : World) (hn : xs.length = n) (hl : n ≤ 4611686018427387904) (hx : Rd (Value.int .i64) w w.heap.size A xs) :
    Calls Tryz.prog 80 #[.slice A n c, .int .i64 x] w fun e w' => e = .returned (.bool (decide (x ∈ xs))) ∧ w = w' := by
  have HI := Lib.hid (show (idxL xs x ≥ 0) ↔ x ∈ xs by unfold idxL; split <;> simp_all)
  go_enter Tryz.func80, Tryz.ntmps80
  go_wp2_with fail
  refine (index_any _ _ _ _ _ _ hn hl hx).mono ?_
  rintro e w' ⟨rfl, rfl⟩
  go_wp2_with fail
  go_ret
  exact ⟨ret_bool (by rw [decide_eq_decide]; exact HI.out), rfl⟩

def idL (n : Nat) : List Int := (List.range n).map fun i : Nat => (i : Int) + 1
theorem idL_succ (n : Nat) : idL (n + 1) = idL n ++ [(n : Int) + 1] := by simp [idL, List.range_succ]
theorem idL_length (n : Nat) : (idL n).length = n := by simp [idL]
set_option maxHeartbeats 400000 in
theorem identity_any (n : Nat) (w : World) (hn : n ≤ 1048576) :
    Calls Tryz.prog 100 #[.int .i64 n] w (Ret (Value.int .i64) 3 w (idL n)) := by
  obtain ⟨i0, hi, hz0, hz1, hz2⟩ := info_parts infoI
  go_enter Tryz.func100, Tryz.ntmps100
  go_wp2
  have hown0 : (w.alloc (.cells #[] 3)).ownsRow w.heap.size 3 1 (.slice (some ⟨w.heap.size, 0, none⟩) 0 0) 0 ((idL 0).map (Value.int .i64)) := World.ownsRow_lit w #[] 0 (Nat.le_refl _) (by unfold maxLen; omega) rfl
  have hb0 := (Below.refl w.heap.size w).alloc (Nat.le_refl _) (.cells #[] 3)
  go_loopw [3, 7] (fun v i wr => ∃ (k : Nat) (A : Option Addr) (c : Nat), k ≤ n ∧ i = .int .i64 k ∧ v = .slice A k c ∧ wr.ownsRow w.heap.size 3 1 (.slice A k c) k ((idL k).map (Value.int .i64)) ∧ Below w.heap.size w wr) (fun _ i _ => n - (intOf i).toNat)
  case atStart => exact ⟨0, _, _, Nat.zero_le _, rfl, rfl, hown0, hb0⟩
  case round =>
    clear hown0 hb0
    obtain ⟨k, A', c', hk, rfl, rfl, hown, hb⟩ := hrel
    have hsz := hb.size
    rcases Nat.lt_or_ge k n with hlt | hge
    · have HS := Lib.hid (idL_succ k)
      go_wp2_with (at_builtin; refine wpList_append_own _ rfl _ _ 36 rfl (w.heap.size) 3 i0 (.int .i64 0) 1 8 Tryz.underlying36 hi hz0 hz1 hz2 rfl (by decide) _ _ _ rfl (World.ownsRow.alloc hown _) ⟨wr.heap.size, 0, none⟩ 1 1 [.int .i64 ((k : Int) + 1)] rfl rfl (cell_one_new _ _ _) (by intro u hu; simp at hu; subst hu; rfl) (by unfold maxLen; omega) (by omega) (by simp; omega) ?_; intro v1 w1 hown1 hgrow1 _)
      have hb1 := (hb.alloc hsz (Obj.cells #[Value.int .i64 ((k : Int) + 1)] 3)).grown hgrow1 (by simp; omega) (by intro g hg; exact ((hown.lt g hg).1))
      have hS2 : w1.ownsRow w.heap.size 3 1 v1 (k + 1) ((idL (k + 1)).map (Value.int .i64)) := by rw [HS.out]; simpa using hown1
      obtain ⟨A1, cc, rfl, _, _⟩ := own_shape hS2
      have hH1 := Lib.hid hS2
      have hH2 := Lib.hid hb1
      clear hS2 hown1 hgrow1 hb1 hown hb
      go_wp2
      go_roundw
      case rel => exact ⟨k + 1, A1, cc, by omega, by go_num, rfl, hH1.out, hH2.out⟩
      case measure => simp [intOf]; omega
    · obtain rfl : k = n := by omega
      have hL := idL_length k
      go_wp2
      go_ret
      exact ⟨A', c', by rw [idL_length]; rfl, by rw [idL_length]; exact (own_caps hown).1, (own_caps hown).2, by rw [idL_length]; exact hown, hb⟩

/-- The pattern of a list: each element's place among all. -/
def belowN (xs : List Int) (x : Int) : Nat := (xs.filter fun y => decide (y < x)).length
def patL (xs : List Int) : List Int := xs.map fun x => (belowN xs x : Int) + 1
theorem patL_length (xs : List Int) : (patL xs).length = xs.length := by simp [patL]
theorem belowN_le (xs : List Int) (x : Int) : belowN xs x ≤ xs.length := List.length_filter_le _ _
theorem belowN_snoc (xs : List Int) (x : Int) (k : Nat) (h : k < xs.length) : belowN (xs.take (k + 1)) x = belowN (xs.take k) x + (if xs[k] < x then 1 else 0) := by
  unfold belowN
  rw [List.take_succ_eq_append_getElem h, List.filter_append, List.length_append]
  congr 1
  by_cases hp : xs[k] < x <;> simp [hp]

theorem l1Bit_q (b : Bool) (w : World) : Calls Tryz.prog 42 #[.bool b] w fun e w' => e = .returned (.int .i64 (if b = true then 1 else 0)) ∧ w = w' := by
  cases b
  · go_enter Tryz.func42, Tryz.ntmps42
    go_wp2
    go_ret
    exact ⟨rfl, rfl⟩
  · go_enter Tryz.func42, Tryz.ntmps42
    go_wp2
    go_ret
    exact ⟨rfl, rfl⟩

set_option maxHeartbeats 1000000 in
theorem pattern_impl (A : Option Addr) (c n : Nat) (xs : List Int) (w : World) (hn : xs.length = n) (hl : n ≤ 1048576) (hx : Rd (Value.int .i64) w w.heap.size A xs) :
    Calls Tryz.prog 123 #[.slice A n c] w (Ret (Value.int .i64) 3 w (patL xs)) := by
  subst hn
  obtain ⟨i0, hi, hz0, hz1, hz2⟩ := info_parts infoI
  go_enter Tryz.func123, Tryz.ntmps123
  go_wp2
  have hown0 : (w.alloc (.cells #[] 3)).ownsRow w.heap.size 3 1 (.slice (some ⟨w.heap.size, 0, none⟩) 0 0) 0 (((xs.take 0).map fun x => (belowN xs x : Int) + 1).map (Value.int .i64)) := World.ownsRow_lit w #[] 0 (Nat.le_refl _) (by unfold maxLen; omega) rfl
  have hb0 := (Below.refl w.heap.size w).alloc (Nat.le_refl _) (.cells #[] 3)
  go_loopw [3, 12] (fun v i wr => ∃ (k : Nat) (A' : Option Addr) (c' : Nat), k ≤ xs.length ∧ i = .int .i64 k ∧ v = .slice A' k c' ∧ wr.ownsRow w.heap.size 3 1 (.slice A' k c') k (((xs.take k).map fun x => (belowN xs x : Int) + 1).map (Value.int .i64)) ∧ Below w.heap.size w wr) (fun _ i _ => xs.length - (intOf i).toNat)
  case atStart => exact ⟨0, _, _, Nat.zero_le _, rfl, rfl, hown0, hb0⟩
  case round =>
    clear hown0 hb0
    obtain ⟨k, A', c', hk, rfl, rfl, hown, hb⟩ := hrel
    obtain ⟨wo, rfl⟩ : ∃ wo : World, wo = wr := ⟨_, rfl⟩
    rcases Nat.lt_or_ge k xs.length with hlt | hge
    · obtain ⟨b, off, rfl, hbb, hc⟩ := hx.below hb (by omega)
      have HC := Lib.hid hc
      have ck := hc k hlt
      have HS := Lib.hid (show (xs.take (k + 1)).map (fun x => (belowN xs x : Int) + 1) = (xs.take k).map (fun x => (belowN xs x : Int) + 1) ++ [(belowN xs xs[k] : Int) + 1] by rw [List.take_succ_eq_append_getElem hlt, List.map_append]; rfl)
      clear hc
      go_wp2
      go_loopw [6, 18] (fun s i wr => ∃ (j F : Nat), j ≤ xs.length ∧ belowN (xs.take j) xs[k] = F ∧ F ≤ j ∧ i = .int .i64 j ∧ s = .int .i64 ((F : Int) + 1) ∧ Dr wo wr) (fun _ i _ => xs.length - (intOf i).toNat)
      case atStart => exact ⟨0, 0, Nat.zero_le _, rfl, Nat.le_refl _, rfl, rfl, Dr.refl _⟩
      case round =>
        obtain ⟨j, F, hj, hF, hFj, rfl, rfl, hd⟩ := hrel
        have HF := Lib.hid hF
        clear hF
        rcases Nat.lt_or_ge j xs.length with hlt2 | hge2
        · have c1 : wr.cell? ⟨b, off + k, none⟩ = some (.int .i64 xs[k]) := (hd.cell _).trans ck
          have c2 : wr.cell? ⟨b, off + j, none⟩ = some (.int .i64 xs[j]) := (hd.cell _).trans (HC.out j hlt2)
          have HB := Lib.hid (belowN_snoc xs xs[k] j hlt2)
          have e1 : IntKind.i64.wrap ((F : Int) + 1 + 1) = (F : Int) + 1 + 1 := IntWalk.i64_in _ (by omega)
          have e2 : IntKind.i64.wrap ((F : Int) + 1) = (F : Int) + 1 := IntWalk.i64_in _ (by omega)
          by_cases hy : xs[j] < xs[k]
          · have HS2 := Lib.hid (show belowN (xs.take (j + 1)) xs[k] = F + 1 by rw [HB.out, if_pos hy, HF.out])
            go_wp2
            go_roundw
            case rel => exact ⟨j + 1, F + 1, by omega, HS2.out, by omega, by go_num, by go_num, (by first | with_reducible assumption | with_reducible exact hd | with_reducible exact Dr.drewN hd _ | with_reducible exact Dr.drewN (Dr.drewN hd _) _ | with_reducible exact Dr.drew hd)⟩
            case measure => simp [intOf]; omega
          · have HS2 := Lib.hid (show belowN (xs.take (j + 1)) xs[k] = F by rw [HB.out, if_neg hy, HF.out]; rfl)
            go_wp2
            go_roundw
            case rel => exact ⟨j + 1, F, by omega, HS2.out, by omega, by go_num, by go_num, (by first | with_reducible assumption | with_reducible exact hd | with_reducible exact Dr.drewN hd _ | with_reducible exact Dr.drewN (Dr.drewN hd _) _ | with_reducible exact Dr.drew hd)⟩
            case measure => simp [intOf]; omega
        · obtain rfl : j = xs.length := by omega
          have HV := Lib.hid (show belowN xs xs[k] = F by have := HF.out; rwa [List.take_length] at this)
          have hown := hd.own hown
          have hb := below_dr hb hd
          have hsz : w.heap.size ≤ wr.heap.size := hb.size
          go_wp2_with (at_builtin; refine wpList_append_own _ rfl _ _ 36 rfl (w.heap.size) 3 i0 (.int .i64 0) 1 8 Tryz.underlying36 hi hz0 hz1 hz2 rfl (by decide) _ _ _ rfl (World.ownsRow.alloc hown _) ⟨wr.heap.size, 0, none⟩ 1 1 [.int .i64 ((F : Int) + 1)] rfl rfl (cell_one_new _ _ _) (by intro u hu; simp at hu; subst hu; rfl) (by unfold maxLen; omega) (by omega) (by simp; omega) ?_; intro v1 w1 hown1 hgrow1 _)
          have hb1 := (hb.alloc hsz (Obj.cells #[Value.int .i64 ((F : Int) + 1)] 3)).grown hgrow1 (by simp; omega) (by intro g hg; exact ((hown.lt g hg).1))
          have hS2 : w1.ownsRow w.heap.size 3 1 v1 (k + 1) (((xs.take (k + 1)).map fun x => (belowN xs x : Int) + 1).map (Value.int .i64)) := by rw [HS.out, HV.out]; simpa using hown1
          obtain ⟨A1, cc, rfl, _, _⟩ := own_shape hS2
          have hH1 := Lib.hid hS2
          have hH2 := Lib.hid hb1
          clear hS2 hown1 hgrow1 hb1 hown hb
          go_wp2
          go_roundw
          case rel => exact ⟨k + 1, A1, cc, by omega, by go_num, rfl, hH1.out, hH2.out⟩
          case measure => simp [intOf]; omega
    · obtain rfl : k = xs.length := by omega
      rw [List.take_length] at hown
      go_wp2
      go_ret
      exact ⟨A', c', by rw [patL_length]; rfl, by rw [patL_length]; exact (own_caps hown).1, (own_caps hown).2, by rw [patL_length]; exact hown, hb⟩

set_option maxHeartbeats 1000000 in
theorem pattern_spec (A : Option Addr) (c n : Nat) (xs : List Int) (w : World) (hn : xs.length = n) (hl : n ≤ 1048576) (hx : Rd (Value.int .i64) w w.heap.size A xs) :
    Calls Tryz.prog 103 #[.slice A n c] w (Ret (Value.int .i64) 3 w (patL xs)) := by
  subst hn
  obtain ⟨i0, hi, hz0, hz1, hz2⟩ := info_parts infoI
  go_enter Tryz.func103, Tryz.ntmps103
  go_wp2
  have hown0 : (w.alloc (.cells #[] 3)).ownsRow w.heap.size 3 1 (.slice (some ⟨w.heap.size, 0, none⟩) 0 0) 0 (((xs.take 0).map fun x => (belowN xs x : Int) + 1).map (Value.int .i64)) := World.ownsRow_lit w #[] 0 (Nat.le_refl _) (by unfold maxLen; omega) rfl
  have hb0 := (Below.refl w.heap.size w).alloc (Nat.le_refl _) (.cells #[] 3)
  go_loopw [3, 4] (fun v i wr => ∃ (k : Nat) (A' : Option Addr) (c' : Nat), k ≤ xs.length ∧ i = .int .i64 k ∧ v = .slice A' k c' ∧ wr.ownsRow w.heap.size 3 1 (.slice A' k c') k (((xs.take k).map fun x => (belowN xs x : Int) + 1).map (Value.int .i64)) ∧ Below w.heap.size w wr) (fun _ i _ => xs.length - (intOf i).toNat)
  case atStart => exact ⟨0, _, _, Nat.zero_le _, rfl, rfl, hown0, hb0⟩
  case round =>
    clear hown0 hb0
    obtain ⟨k, A', c', hk, rfl, rfl, hown, hb⟩ := hrel
    obtain ⟨wo, rfl⟩ : ∃ wo : World, wo = wr := ⟨_, rfl⟩
    rcases Nat.lt_or_ge k xs.length with hlt | hge
    · obtain ⟨b, off, rfl, hbb, hc⟩ := hx.below hb (by omega)
      have HC := Lib.hid hc
      have ck := hc k hlt
      have HS := Lib.hid (show (xs.take (k + 1)).map (fun x => (belowN xs x : Int) + 1) = (xs.take k).map (fun x => (belowN xs x : Int) + 1) ++ [(belowN xs xs[k] : Int) + 1] by rw [List.take_succ_eq_append_getElem hlt, List.map_append]; rfl)
      clear hc
      go_wp2
      go_loopw [5, 6] (fun s i wr => ∃ (j F : Nat), j ≤ xs.length ∧ belowN (xs.take j) xs[k] = F ∧ F ≤ j ∧ i = .int .i64 j ∧ s = .int .i64 ((F : Int) + 1) ∧ Dr wo wr) (fun _ i _ => xs.length - (intOf i).toNat)
      case atStart => exact ⟨0, 0, Nat.zero_le _, rfl, Nat.le_refl _, rfl, rfl, Dr.refl _⟩
      case round =>
        obtain ⟨j, F, hj, hF, hFj, rfl, rfl, hd⟩ := hrel
        have HF := Lib.hid hF
        clear hF
        rcases Nat.lt_or_ge j xs.length with hlt2 | hge2
        · have c1 : wr.cell? ⟨b, off + k, none⟩ = some (.int .i64 xs[k]) := (hd.cell _).trans ck
          have c2 : wr.cell? ⟨b, off + j, none⟩ = some (.int .i64 xs[j]) := (hd.cell _).trans (HC.out j hlt2)
          have HB := Lib.hid (belowN_snoc xs xs[k] j hlt2)
          have e1 : IntKind.i64.wrap ((F : Int) + 1 + 1) = (F : Int) + 1 + 1 := IntWalk.i64_in _ (by omega)
          have e2 : IntKind.i64.wrap ((F : Int) + 1) = (F : Int) + 1 := IntWalk.i64_in _ (by omega)
          by_cases hy : xs[j] < xs[k]
          · have HS2 := Lib.hid (show belowN (xs.take (j + 1)) xs[k] = F + 1 by rw [HB.out, if_pos hy, HF.out])
            go_wp2
            go_quiet ((go_at_call 42; exact quiet_eq (l1Bit_q _ _)))
            go_wp2
            go_roundw
            case rel => exact ⟨j + 1, F + 1, by omega, HS2.out, by omega, by go_num, by go_num, (by first | with_reducible assumption | with_reducible exact hd | with_reducible exact Dr.drewN hd _ | with_reducible exact Dr.drewN (Dr.drewN hd _) _ | with_reducible exact Dr.drew hd)⟩
            case measure => simp [intOf]; omega
          · have HS2 := Lib.hid (show belowN (xs.take (j + 1)) xs[k] = F by rw [HB.out, if_neg hy, HF.out]; rfl)
            go_wp2
            go_quiet ((go_at_call 42; exact quiet_eq (l1Bit_q _ _)))
            go_wp2
            go_roundw
            case rel => exact ⟨j + 1, F, by omega, HS2.out, by omega, by go_num, by go_num, (by first | with_reducible assumption | with_reducible exact hd | with_reducible exact Dr.drewN hd _ | with_reducible exact Dr.drewN (Dr.drewN hd _) _ | with_reducible exact Dr.drew hd)⟩
            case measure => simp [intOf]; omega
        · obtain rfl : j = xs.length := by omega
          have HV := Lib.hid (show belowN xs xs[k] = F by have := HF.out; rwa [List.take_length] at this)
          have hown := hd.own hown
          have hb := below_dr hb hd
          have hsz : w.heap.size ≤ wr.heap.size := hb.size
          go_wp2_with (at_builtin; refine wpList_append_own _ rfl _ _ 36 rfl (w.heap.size) 3 i0 (.int .i64 0) 1 8 Tryz.underlying36 hi hz0 hz1 hz2 rfl (by decide) _ _ _ rfl (World.ownsRow.alloc hown _) ⟨wr.heap.size, 0, none⟩ 1 1 [.int .i64 ((F : Int) + 1)] rfl rfl (cell_one_new _ _ _) (by intro u hu; simp at hu; subst hu; rfl) (by unfold maxLen; omega) (by omega) (by simp; omega) ?_; intro v1 w1 hown1 hgrow1 _)
          have hb1 := (hb.alloc hsz (Obj.cells #[Value.int .i64 ((F : Int) + 1)] 3)).grown hgrow1 (by simp; omega) (by intro g hg; exact ((hown.lt g hg).1))
          have hS2 : w1.ownsRow w.heap.size 3 1 v1 (k + 1) (((xs.take (k + 1)).map fun x => (belowN xs x : Int) + 1).map (Value.int .i64)) := by rw [HS.out, HV.out]; simpa using hown1
          obtain ⟨A1, cc, rfl, _, _⟩ := own_shape hS2
          have hH1 := Lib.hid hS2
          have hH2 := Lib.hid hb1
          clear hS2 hown1 hgrow1 hb1 hown hb
          go_wp2
          go_roundw
          case rel => exact ⟨k + 1, A1, cc, by omega, by go_num, rfl, hH1.out, hH2.out⟩
          case measure => simp [intOf]; omega
    · obtain rfl : k = xs.length := by omega
      rw [List.take_length] at hown
      go_wp2
      go_ret
      exact ⟨A', c', by rw [patL_length]; rfl, by rw [patL_length]; exact (own_caps hown).1, (own_caps hown).2, by rw [patL_length]; exact hown, hb⟩

end Go.Proofs.YtodloeonlaljpaaGreat

/- Plain maths: all lists of the numbers 1 to n, breadth first and depth first. -/
namespace Go.Proofs.YtodloeonlaljpaaGreat
set_option maxRecDepth 100000

def nums (n : Nat) : List Int := (List.range n).map fun i : Nat => (i : Int) + 1
theorem nums_succ (n : Nat) : nums (n + 1) = nums n ++ [(n : Int) + 1] := by simp [nums, List.range_succ]
theorem nums_length (n : Nat) : (nums n).length = n := by simp [nums]
/-- The numbers that may come next. -/
def nexts (n : Nat) (p : List Int) : List Int := (nums n).filter fun v => !decide (v ∈ p)
def ext1 (n : Nat) (p : List Int) : List (List Int) := (nexts n p).map fun v => p ++ [v]
/-- One number more, in every way. -/
def ext (n : Nat) (ls : List (List Int)) : List (List Int) := ls.flatMap (ext1 n)
def permsI (n : Nat) : Nat → List (List Int)
  | 0 => [[]]
  | i + 1 => ext n (permsI n i)
def permsL (n : Nat) : List (List Int) := permsI n n
/-- Depth first: every way to k numbers more. -/
def fillF (n : Nat) : Nat → List Int → List (List Int)
  | 0, p => [p]
  | k + 1, p => (nexts n p).flatMap fun v => fillF n k (p ++ [v])

theorem nums_mem {n : Nat} {v : Int} : v ∈ nums n ↔ 1 ≤ v ∧ v ≤ n := by
  unfold nums
  rw [List.mem_map]
  constructor
  · rintro ⟨i, hi, rfl⟩
    have := List.mem_range.1 hi
    omega
  · rintro ⟨h1, h2⟩
    exact ⟨(v - 1).toNat, List.mem_range.2 (by omega), by omega⟩
theorem nexts_le (n : Nat) (p : List Int) : (nexts n p).length ≤ n := by
  have := List.length_filter_le (fun v => !decide (v ∈ p)) (nums n)
  rw [nums_length] at this
  exact this
theorem nexts_mem {n : Nat} {p : List Int} {v : Int} : v ∈ nexts n p ↔ (1 ≤ v ∧ v ≤ n) ∧ v ∉ p := by
  unfold nexts
  rw [List.mem_filter, nums_mem]
  simp
theorem flatMap_le {α β : Type} (f : α → List β) (m : Nat) (l : List α) (h : ∀ a ∈ l, (f a).length ≤ m) : (l.flatMap f).length ≤ l.length * m := by
  induction l with
  | nil => simp
  | cons a t ih =>
    have h1 := h a (by simp)
    have h2 := ih (fun b hb => h b (by simp [hb]))
    rw [List.flatMap_cons, List.length_append, List.length_cons, Nat.add_mul, Nat.one_mul]
    omega
theorem ext_le (n : Nat) (ls : List (List Int)) : (ext n ls).length ≤ ls.length * n :=
  flatMap_le _ n ls fun p _ => by unfold ext1; rw [List.length_map]; exact nexts_le n p
theorem permsI_le (n i : Nat) : (permsI n i).length ≤ n ^ i := by
  induction i with
  | zero => simp [permsI]
  | succ i ih =>
    have h := ext_le n (permsI n i)
    have h2 := Nat.mul_le_mul_right n ih
    rw [Nat.pow_succ]
    exact Nat.le_trans h h2
theorem fillF_le (n k : Nat) : ∀ p, (fillF n k p).length ≤ n ^ k := by
  induction k with
  | zero => intro p; simp [fillF]
  | succ k ih =>
    intro p
    have h := flatMap_le (fun v => fillF n k (p ++ [v])) (n ^ k) (nexts n p) (fun v _ => ih _)
    have h2 := Nat.mul_le_mul_right (n ^ k) (nexts_le n p)
    rw [Nat.pow_succ, Nat.mul_comm]
    exact Nat.le_trans h h2
theorem fill_iter (n : Nat) : ∀ (k i : Nat), permsI n (i + k) = (permsI n i).flatMap (fillF n k) := by
  intro k
  induction k with
  | zero => intro i; simp [fillF]
  | succ k ih =>
    intro i
    have h := ih (i + 1)
    rw [show i + (k + 1) = i + 1 + k by omega, h]
    show (ext n (permsI n i)).flatMap (fillF n k) = _
    unfold ext
    rw [List.flatMap_assoc]
    congr 1
    funext p
    unfold ext1
    rw [List.flatMap_map]
    rfl
theorem fill_perms (n : Nat) : fillF n n [] = permsL n := by
  have h := fill_iter n n 0
  rw [Nat.zero_add] at h
  show fillF n n [] = permsI n n
  rw [h]
  simp [permsI]
theorem permsI_mem {n i : Nat} {p : List Int} (h : p ∈ permsI n i) : p.length = i ∧ (∀ v ∈ p, 1 ≤ v ∧ v ≤ n) ∧ p.Nodup := by
  induction i generalizing p with
  | zero =>
    have : p = [] := by simpa [permsI] using h
    subst this
    simp
  | succ i ih =>
    obtain ⟨q, hq, hp⟩ := List.mem_flatMap.1 h
    obtain ⟨v, hv, rfl⟩ := List.mem_map.1 hp
    obtain ⟨h1, h2, h3⟩ := ih hq
    obtain ⟨h4, h5⟩ := nexts_mem.1 hv
    refine ⟨by simp [h1], fun u hu => ?_, (nodup_snoc q v).2 ⟨h3, h5⟩⟩
    rcases List.mem_append.1 hu with hu | hu
    · exact h2 u hu
    · obtain rfl := List.mem_singleton.1 hu
      exact h4
theorem permsL_perm {n : Nat} (h8 : n ≤ 8) {p : List Int} (h : p ∈ permsL n) : permB p = true ∧ p.length = n := by
  obtain ⟨h1, h2, h3⟩ := permsI_mem h
  refine ⟨?_, h1⟩
  simp only [permB, decide_eq_true_eq]
  exact ⟨by omega, fun v hv => by rw [h1]; exact h2 v hv, h3⟩
theorem permsI_all {n : Nat} : ∀ (p : List Int), p.Nodup → (∀ v ∈ p, 1 ≤ v ∧ v ≤ n) → p ∈ permsI n p.length := by
  intro p
  induction hl : p.length generalizing p with
  | zero => intro _ _; rw [List.eq_nil_of_length_eq_zero hl]; simp [permsI]
  | succ i ih =>
    intro hn hr
    have hne : p ≠ [] := by intro e; subst e; simp at hl
    obtain ⟨q, v, rfl⟩ : ∃ q v, p = q ++ [v] := ⟨p.dropLast, p.getLast hne, (List.dropLast_concat_getLast hne).symm⟩
    obtain ⟨h1, h2⟩ := (nodup_snoc q v).1 hn
    refine List.mem_flatMap.2 ⟨q, ih q (by simpa using hl) h1 (fun u hu => hr u (by simp [hu])), List.mem_map.2 ⟨v, nexts_mem.2 ⟨hr v (by simp), h2⟩, rfl⟩⟩
theorem permB_mem {p : List Int} (h : permB p = true) : p ∈ permsL p.length := permsI_all p (permB_true h).2.2 (permB_true h).2.1

end Go.Proofs.YtodloeonlaljpaaGreat

/- Contracts of the reference's statistics. -/
namespace Go.Proofs.YtodloeonlaljpaaGreat
set_option maxRecDepth 100000
open Go Go.RowKit

theorem l1Bit_any (b : Bool) (w : World) : Calls Tryz.prog 42 #[.bool b] w fun e w' => e = .returned (.int .i64 (if b = true then 1 else 0)) ∧ w = w' := by
  cases b
  · go_enter Tryz.func42, Tryz.ntmps42
    go_wp2
    go_ret
    exact ⟨rfl, rfl⟩
  · go_enter Tryz.func42, Tryz.ntmps42
    go_wp2
    go_ret
    exact ⟨rfl, rfl⟩




def leastL (s : Int) (l : List Int) : Int := l.foldl (fun m x => if x < m then x else m) s
theorem leastL_le (s : Int) (l : List Int) : leastL s l ≤ s := by
  induction l generalizing s with
  | nil => exact Int.le_refl _
  | cons y l ih =>
    have := ih (if y < s then y else s)
    have h2 : leastL s (y :: l) = leastL (if y < s then y else s) l := rfl
    rw [h2]
    refine Int.le_trans this ?_
    split <;> omega
theorem leastL_lt (s : Int) (l : List Int) (x : Int) (hs : x < s) (hne : x ∉ l) : x < leastL s l ↔ ∀ y ∈ l, ¬ y < x := by
  induction l generalizing s with
  | nil => simp [leastL, hs]
  | cons y l ih =>
    have h2 : leastL s (y :: l) = leastL (if y < s then y else s) l := rfl
    rw [h2]
    have hy : y ≠ x := fun e => hne (by simp [e])
    have hne' : x ∉ l := fun e => hne (by simp [e])
    have hle := leastL_le (if y < s then y else s) l
    by_cases h : y < x
    · constructor
      · intro h3
        have : (if y < s then y else s) ≤ y := by split <;> omega
        omega
      · intro h3; exact absurd h (h3 y (by simp))
    · rw [ih _ (by split <;> omega) hne']
      constructor
      · intro g z hz
        rcases List.mem_cons.1 hz with rfl | hz
        · exact h
        · exact g z hz
      · intro g z hz
        exact g z (by simp [hz])
theorem leastL_snoc (s : Int) (l : List Int) (x : Int) : leastL s (l ++ [x]) = if x < leastL s l then x else leastL s l := by unfold leastL; rw [List.foldl_append]; rfl
def mostL (s : Int) (l : List Int) : Int := l.foldl (fun m x => if x > m then x else m) s
theorem mostL_le (s : Int) (l : List Int) : s ≤ mostL s l := by
  induction l generalizing s with
  | nil => exact Int.le_refl _
  | cons y l ih =>
    have := ih (if y > s then y else s)
    have h2 : mostL s (y :: l) = mostL (if y > s then y else s) l := rfl
    rw [h2]
    refine Int.le_trans ?_ this
    split <;> omega
theorem mostL_lt (s : Int) (l : List Int) (x : Int) (hs : s < x) (hne : x ∉ l) : mostL s l < x ↔ ∀ y ∈ l, ¬ y > x := by
  induction l generalizing s with
  | nil => simp [mostL, hs]
  | cons y l ih =>
    have h2 : mostL s (y :: l) = mostL (if y > s then y else s) l := rfl
    rw [h2]
    have hy : y ≠ x := fun e => hne (by simp [e])
    have hne' : x ∉ l := fun e => hne (by simp [e])
    have hle := mostL_le (if y > s then y else s) l
    by_cases h : y > x
    · constructor
      · intro h3
        have : y ≤ (if y > s then y else s) := by split <;> omega
        omega
      · intro h3; exact absurd h (h3 y (by simp))
    · rw [ih _ (by split <;> omega) hne']
      constructor
      · intro g z hz
        rcases List.mem_cons.1 hz with rfl | hz
        · exact h
        · exact g z hz
      · intro g z hz
        exact g z (by simp [hz])
theorem mostL_snoc (s : Int) (l : List Int) (x : Int) : mostL s (l ++ [x]) = if x > mostL s l then x else mostL s l := by unfold mostL; rw [List.foldl_append]; rfl
theorem mem_take_iff {xs : List Int} {k : Nat} {y : Int} (hk : k ≤ xs.length) : y ∈ xs.take k ↔ ∃ j, j < k ∧ xs[j]?.getD 0 = y := by
  constructor
  · intro h
    obtain ⟨j, hj, rfl⟩ := List.getElem_of_mem h
    simp only [List.length_take] at hj
    exact ⟨j, by omega, by simp [show j < xs.length by omega]⟩
  · rintro ⟨j, hj, rfl⟩
    rw [List.getElem?_eq_getElem (show j < xs.length by omega)]
    exact List.mem_take_iff_getElem.2 ⟨j, by omega, rfl⟩
theorem not_mem_take {xs : List Int} {k : Nat} (hk : k < xs.length) (h : xs.Nodup) : xs[k] ∉ xs.take k := by
  have h' := (List.take_sublist (k + 1) xs).nodup h
  rw [List.take_succ_eq_append_getElem hk] at h'
  exact ((nodup_snoc _ _).1 h').2




end Go.Proofs.YtodloeonlaljpaaGreat

/- Patterns with joined places: the laws' own helpers for them, and IsNear. -/
namespace Go.Proofs.YtodloeonlaljpaaGreat
set_option maxRecDepth 100000
open Go Go.RowKit

/-- The joined place at j is right, in a pattern of length n. -/
def joinAt (n : Nat) (ys : List Int) (j : Nat) : Bool := decide (1 ≤ ys[j]?.getD 0 ∧ ys[j]?.getD 0 < n ∧ (j = 0 ∨ ys[j - 1]?.getD 0 < ys[j]?.getD 0))
def joinTo (n : Nat) (ys : List Int) (k : Nat) : Bool := (List.range k).all (joinAt n ys)
theorem joinTo_succ (n : Nat) (ys : List Int) (k : Nat) : joinTo n ys (k + 1) = (joinTo n ys k && joinAt n ys k) := by simp [joinTo, List.range_succ]
theorem joinTo_false {n : Nat} {ys : List Int} {k m : Nat} (h : k < m) (ht : joinAt n ys k = false) : joinTo n ys m = false := by
  unfold joinTo
  rw [List.all_eq_false]
  exact ⟨k, List.mem_range.2 h, by simp [ht]⟩
def nearB (xs ys : List Int) : Bool := permB xs && joinTo xs.length ys ys.length

theorem l1In_b (x lo hi : Int) (w : World) (b : Bool) (hb : decide (lo ≤ x ∧ x ≤ hi) = b) :
    Calls Tryz.prog 50 #[.int .i64 x, .int .i64 lo, .int .i64 hi] w fun e w' => e = .returned (.bool b) ∧ w = w' := by
  subst hb
  exact l1In_any x lo hi w

end Go.Proofs.YtodloeonlaljpaaGreat

/- All permutations of a length, breadth first and depth first. -/
namespace Go.Proofs.YtodloeonlaljpaaGreat
set_option maxRecDepth 100000
open Go Go.RowKit

theorem pow_six {n i : Nat} (hn : n ≤ 6) (hi : i ≤ 6) : n ^ i ≤ 46656 := by
  have h1 : n ^ i ≤ 6 ^ i := Nat.pow_le_pow_left hn i
  have h2 : 6 ^ i ≤ 6 ^ 6 := Nat.pow_le_pow_right (by omega) hi
  omega
theorem flatMap_take {α β : Type} (f : α → List β) (l : List α) (k : Nat) (h : k < l.length) : (l.take (k + 1)).flatMap f = (l.take k).flatMap f ++ f l[k] := by
  rw [List.take_succ_eq_append_getElem h, List.flatMap_append]; simp
theorem ext_take_le (n : Nat) (ls : List (List Int)) (k : Nat) : (ext n (ls.take k)).length ≤ ls.length * n := by
  have h1 := ext_le n (ls.take k)
  have h2 : (ls.take k).length ≤ ls.length := by simp; omega
  have h3 := Nat.mul_le_mul_right n h2
  omega
/-- What has come of one list's ways at the number v. -/
def extTo (p : List Int) (v : Nat) : List (List Int) := ((nums v).filter fun x => !decide (x ∈ p)).map fun x => p ++ [x]
theorem extTo_succ (p : List Int) (v : Nat) : extTo p (v + 1) = if ((v : Int) + 1) ∈ p then extTo p v else extTo p v ++ [p ++ [(v : Int) + 1]] := by
  unfold extTo
  rw [nums_succ, List.filter_append]
  by_cases h : ((v : Int) + 1) ∈ p <;> simp [h]
theorem extTo_le (p : List Int) (v : Nat) : (extTo p v).length ≤ v := by
  unfold extTo
  have := List.length_filter_le (fun x => !decide (x ∈ p)) (nums v)
  rw [nums_length] at this
  rw [List.length_map]; exact this
theorem ext1_to (n : Nat) (p : List Int) : ext1 n p = extTo p n := rfl

theorem contains_b (A : Option Addr) (c n : Nat) (xs : List Int) (x : Int) (w : World) (b : Bool) (hn : xs.length = n) (hl : n ≤ 4611686018427387904) (hx : Rd (Value.int .i64) w w.heap.size A xs) (hb : decide (x ∈ xs) = b) :
    Calls Tryz.prog 80 #[.slice A n c, .int .i64 x] w fun e w' => e = .returned (.bool b) ∧ w = w' := by
  subst hb
  exact contains_any A c n xs x w hn hl hx
theorem l2Has_b (A : Option Addr) (c n : Nat) (xs : List Int) (x : Int) (w : World) (b : Bool) (hn : xs.length = n) (hl : n ≤ 4611686018427387904) (hx : Rd (Value.int .i64) w w.heap.size A xs) (hb : decide (x ∈ xs) = b) :
    Calls Tryz.prog 104 #[.slice A n c, .int .i64 x] w fun e w' => e = .returned (.bool b) ∧ w = w' := by
  subst hb
  exact l2Has_any A c n xs x w hn hl hx
set_option maxHeartbeats 4000000 in
theorem perms_impl (n : Nat) (w : World) (hn : n ≤ 6) :
    Calls Tryz.prog 44 #[.int .i64 n] w (RetL w (permsL n)) := by
  obtain ⟨i0, hi, hz0, hz1, hz2⟩ := info_parts infoI
  obtain ⟨j0, hj, hy0, hy1, hy2⟩ := info_parts infoL
  have own0 : (w.alloc (.cells #[] 3)).ownsRow w.heap.size 3 1 (Row.v ⟨some ⟨w.heap.size, 0, none⟩, 0, []⟩) 0 (([] : List Int).map (Value.int .i64)) := World.ownsRow_lit w #[] 0 (Nat.le_refl _) (by unfold maxLen; omega) rfl
  have own1 : ((w.alloc (.cells #[] 3)).alloc (.cells #[.slice (some ⟨w.heap.size, 0, none⟩) 0 0] 36)).ownsRow w.heap.size 36 1 (.slice (some ⟨(w.alloc (.cells #[] 3)).heap.size, 0, none⟩) 1 1) 1 [.slice (some ⟨w.heap.size, 0, none⟩) 0 0] :=
    World.ownsRow_lit (w.alloc (.cells #[] 3)) #[.slice (some ⟨w.heap.size, 0, none⟩) 0 0] 1 (by simp) (by unfold maxLen; omega) rfl
  have hA := (Own.add (os := []) (r := ⟨some ⟨w.heap.size, 0, none⟩, 0, []⟩) (Own.nil_ (w := ((w.alloc (.cells #[] 3)).alloc (.cells #[.slice (some ⟨w.heap.size, 0, none⟩) 0 0] 36))) (lo := w.heap.size) (hi := w.heap.size)) (own0.alloc _) (by simp; omega) (Nat.le_refl _)).with_ (A := some ⟨(w.alloc (.cells #[] 3)).heap.size, 0, none⟩) (c := 1) (vs := [.slice (some ⟨w.heap.size, 0, none⟩) 0 0]) own1 (Nat.le_refl _)
  have hb0 : Below w.heap.size w ((w.alloc (.cells #[] 3)).alloc (.cells #[.slice (some ⟨w.heap.size, 0, none⟩) 0 0] 36)) := ((Below.refl _ _).alloc (Nat.le_refl _) _).alloc (by simp) _
  simp only [List.nil_append] at hA
  clear own0 own1
  go_enter Tryz.func44, Tryz.ntmps44
  go_wp2_with fail
  simp only [World.size_alloc] at hA
  go_loopw [3, 11] (fun v i wr => ∃ (k : Nat) (A : Option Addr) (c : Nat) (rs : List Row), k ≤ n ∧ i = .int .i64 k ∧ v = .slice A rs.length c ∧ Hid (rs.map Row.xs = permsI n k) ∧ Own wr w.heap.size wr.heap.size rs [⟨A, c, rs.map Row.v⟩] ∧ Below w.heap.size w wr) (fun _ i _ => n - (intOf i).toNat)
  case atStart => exact ⟨0, _, _, [⟨some ⟨w.heap.size, 0, none⟩, 0, []⟩], Nat.zero_le _, rfl, rfl, Lib.hid rfl, by simpa [Row.v] using hA, hb0⟩
  case round =>
    clear hA hb0
    obtain ⟨k, A, c, rs, hk, rfl, rfl, HX, hO, hb⟩ := hrel
    have hsz := hb.size
    have hlen : rs.length ≤ 46656 := by
      have h1 := congrArg List.length HX.out
      have h2 := permsI_le n k
      have h3 := pow_six hn (show k ≤ 6 by omega)
      rw [List.length_map] at h1
      omega
    rcases Nat.lt_or_ge k n with hlt | hge
    · have hRd := hO.read
      have hL0 := Own.lit (lo := wr.heap.size) wr (Nat.le_refl _)
      have hbL := (Below.refl wr.heap.size wr).alloc (Nat.le_refl _) (.cells #[] 36)
      obtain ⟨wo, rfl⟩ : ∃ wo : World, wo = wr := ⟨_, rfl⟩
      clear hO
      go_wp2_with fail
      go_loopw [4, 16] (fun v i wr => ∃ (j : Nat) (A1 : Option Addr) (c1 : Nat) (rs1 : List Row), j ≤ rs.length ∧ i = .int .i64 j ∧ v = .slice A1 rs1.length c1 ∧ Hid (rs1.map Row.xs = ext n ((rs.map Row.xs).take j)) ∧ Own wr wo.heap.size wr.heap.size rs1 [⟨A1, c1, rs1.map Row.v⟩] ∧ Below wo.heap.size wo wr) (fun _ i _ => rs.length - (intOf i).toNat)
      case atStart => exact ⟨0, _, _, [], Nat.zero_le _, rfl, rfl, Lib.hid rfl, hL0, hbL⟩
      case round =>
        clear hL0 hbL
        obtain ⟨j, A1, c1, rs1, hj1, rfl, rfl, HX1, hO1, hb1⟩ := hrel
        by_cases hlt1 : j < rs.length
        · have hRd1 := hRd.below hb1
          obtain ⟨b, off, rfl, _, hc⟩ := hRd1.at (by omega)
          have c1' := hc j hlt1
          have hp := hRd1.rd rs[j] (List.getElem_mem hlt1)
          have hpc := hRd1.cap rs[j] (List.getElem_mem hlt1)
          have hple : rs[j].xs.length ≤ 6 := by
            have h1 : rs[j].xs ∈ permsI n k := by rw [← HX.out]; exact List.mem_map.2 ⟨rs[j], List.getElem_mem hlt1, rfl⟩
            have := (permsI_mem h1).1
            omega
          have hel1 : rs1.length ≤ 46656 * 6 := by
            have h1 := congrArg List.length HX1.out
            have h2 := ext_take_le n (rs.map Row.xs) j
            rw [List.length_map] at h1 h2
            have h3 := Nat.mul_le_mul hlen hn
            omega
          obtain ⟨p, hpe⟩ : ∃ p : Row, p = rs[j] := ⟨_, rfl⟩
          rw [← hpe] at c1' hp hple hpc
          have HPE := Lib.hid hpe
          clear hpe hc hRd1
          obtain ⟨wi, rfl⟩ : ∃ wi : World, wi = wr := ⟨_, rfl⟩
          go_wp2_with fail
          go_loopw [4, 7] (fun v i wr => ∃ (u : Nat) (A2 : Option Addr) (c2 : Nat) (rs2 : List Row), u ≤ n ∧ i = .int .i64 ((u : Int) + 1) ∧ v = .slice A2 rs2.length c2 ∧ Hid (rs2.map Row.xs = ext n ((rs.map Row.xs).take j) ++ extTo p.xs u) ∧ Own wr wo.heap.size wr.heap.size rs2 [⟨A2, c2, rs2.map Row.v⟩] ∧ Below wo.heap.size wo wr) (fun _ i _ => n + 1 - (intOf i).toNat)
          case atStart => exact ⟨0, _, _, rs1, Nat.zero_le _, rfl, rfl, Lib.hid (by rw [HX1.out]; simp [extTo, nums]), hO1, hb1⟩
          case round =>
            obtain ⟨u, A2, c2, rs2, hu, rfl, rfl, HX2, hO2, hb2⟩ := hrel
            have hel2 : rs2.length ≤ 46656 * 6 + 6 := by
              have h1 := congrArg List.length HX2.out
              have h2 := ext_take_le n (rs.map Row.xs) j
              have h4 := extTo_le p.xs u
              rw [List.length_append, List.length_map] at h1
              rw [List.length_map] at h2
              have h3 := Nat.mul_le_mul hlen hn
              omega
            rcases Nat.lt_or_ge u n with hlt2 | hge2
            · have hp2 := (hRd.below hb2).rd p (by rw [HPE.out]; exact List.getElem_mem hlt1)
              have hsz2 := hb2.size
              by_cases hm : ((u : Int) + 1) ∈ p.xs
              · have HM := Lib.hid (decide_eq_true hm)
                have HT := Lib.hid (show extTo p.xs (u + 1) = extTo p.xs u by rw [extTo_succ, if_pos hm])
                clear hm
                go_wp2_with fail
                (with_reducible refine (contains_b p.A p.c p.xs.length p.xs ((u : Int) + 1) wr true rfl (by omega) (hp2.more hsz2) HM.out).mono ?_)
                rintro e w' ⟨rfl, rfl⟩
                go_wp2_with fail
                go_roundw
                case rel => exact ⟨u + 1, A2, c2, rs2, by omega, by go_num, rfl, Lib.hid (by rw [HT.out]; exact HX2.out), hO2, hb2⟩
                case measure => simp [intOf]; omega
              · have HM := Lib.hid (decide_eq_false hm)
                have HT := Lib.hid (show extTo p.xs (u + 1) = extTo p.xs u ++ [p.xs ++ [(u : Int) + 1]] by rw [extTo_succ, if_neg hm])
                clear hm
                go_wp2_with fail
                (with_reducible refine (contains_b p.A p.c p.xs.length p.xs ((u : Int) + 1) wr false rfl (by omega) (hp2.more hsz2) HM.out).mono ?_)
                rintro e w' ⟨rfl, rfl⟩
                go_wp2_with fail
                (with_reducible refine (clone_any p.A p.c p.xs wr ⟨by omega, hpc, hp2.more hsz2⟩).mono ?_)
                rintro e wc ⟨A3, c3, rfl, q1, q2, hown, hbc⟩
                have hszc := hbc.size
                go_wp2_with (first | ((at_builtin; refine wpList_append_own _ rfl _ _ 36 rfl (wr.heap.size) 3 i0 (.int .i64 0) 1 8 Tryz.underlying36 hi hz0 hz1 hz2 rfl (by decide) _ _ _ rfl (World.ownsRow.alloc hown _) ⟨wc.heap.size, 0, none⟩ 1 1 [.int .i64 ((u : Int) + 1)] rfl rfl (cell_one_new _ _ _) (by intro u hu; simp at hu; subst hu; rfl) (by unfold maxLen; omega) (by omega) (by simp; omega) ?_; intro v1 w1 hown1 hgrow1 _); have hrow : w1.ownsRow wr.heap.size 3 1 v1 (p.xs.length + 1) ((p.xs ++ [(u : Int) + 1]).map (Value.int .i64)) := (by simpa using hown1); obtain ⟨A4, c4, rfl, _, _⟩ := own_shape hrow; have hg1 := grown_trans (World.grownBy_alloc wc (Obj.cells #[Value.int .i64 ((u : Int) + 1)] 3) _) hgrow1; have hsz1 := hg1.size; have hlm := fun g hg => hown.lt g hg; have hO3 := (hO2.below hbc).span (Span.of_grown (lo := wr.heap.size) (hi := wc.heap.size) hg1 hlm) (.inl (Nat.le_refl _)); have hO4 := hO3.add (r := ⟨A4, c4, p.xs ++ [(u : Int) + 1]⟩) (by simpa [Row.v] using hrow) (by omega) hsz2; have hbw := (hb2.trans (hbc.mono hsz2)).grown hg1 (by omega) (fun g hg => by have := hlm g hg; omega); have hown2 := hO4.outN (n := rs2.length) (by simp); clear hO3 hown hown1 hgrow1 hg1 hrow hlm) | (at_builtin; refine wpList_append_own _ rfl _ _ 24 rfl (wo.heap.size) 36 j0 (.slice none 0 0) 1 24 Tryz.underlying24 hj hy0 hy1 hy2 rfl (by decide) _ _ _ rfl (World.ownsRow.alloc hown2 _) ⟨w1.heap.size, 0, none⟩ 1 1 [Value.slice A4 (p.xs.length + 1) c4] rfl rfl (cell_one_at _ _ (by simp)) (by intro u hu; simp at hu; subst hu; rfl) (by unfold maxLen; omega) (by omega) (by simp; omega) ?_; intro v9 w9 hown9 hgrow9 _))
                obtain ⟨A5, c5, rfl, hO6, hg3⟩ := hO4.grow (Nat.le_refl _) (by simp) hown9 hgrow9
                have hbw3 := hbw.grown hg3 (by omega) (fun g hg => (hO4.olim (by simp) g hg).1)
                have K := Lib.hid (And.intro hO6 hbw3)
                clear hO6 hbw3 hown9 hgrow9 hg3 hO4 hbw hown2
                go_wp2_with fail
                go_roundw
                case rel => exact ⟨u + 1, A5, c5, rs2 ++ [⟨A4, c4, p.xs ++ [(u : Int) + 1]⟩], by omega, by go_num, by rw [List.length_append]; rfl, Lib.hid (by rw [HT.out, List.map_append, HX2.out]; simp), by simpa [Row.v] using K.out.1, K.out.2⟩
                case measure => simp [intOf]; omega
            · obtain rfl : u = n := by omega
              have HE := Lib.hid (show rs2.map Row.xs = ext u ((rs.map Row.xs).take (j + 1)) by
                rw [HX2.out]
                unfold ext
                rw [flatMap_take _ _ _ (by simpa using hlt1)]
                simp [ext1_to, HPE.out])
              go_wp2_with fail
              go_roundw
              case rel => exact ⟨j + 1, A2, c2, rs2, by omega, by go_num, rfl, HE, hO2, hb2⟩
              case measure => simp [intOf]; omega
        · obtain rfl : j = rs.length := by omega
          have HE := Lib.hid (show rs1.map Row.xs = permsI n (k + 1) by
            rw [HX1.out, List.take_of_length_le (by simp), HX.out]; rfl)
          go_wp2_with fail
          go_roundw
          case rel => exact ⟨k + 1, A1, c1, rs1, by omega, by go_num, rfl, HE, hO1.wider hsz (Nat.le_refl _), hb.trans (hb1.mono hsz)⟩
          case measure => simp [intOf]; omega
    · obtain rfl : k = n := by omega
      go_wp2_with fail
      go_ret
      exact ⟨A, c, rs, rfl, HX.out, hO, hb⟩
end Go.Proofs.YtodloeonlaljpaaGreat

/- The reference's permutations, depth first. -/
namespace Go.Proofs.YtodloeonlaljpaaGreat
set_option maxRecDepth 100000
open Go Go.RowKit

/-- What a call that fills a list leaves: the rows that came, behind those that were there; the rows F beside them are kept. -/
def Filled (w : World) (lo : Nat) (F rs : List Row) (L : List (List Int)) (e : Ending) (w' : World) : Prop :=
  ∃ A' c' rs', e = .returned (.slice A' (rs.length + rs'.length) c') ∧ rs'.map Row.xs = L ∧ Own w' lo w'.heap.size (F ++ (rs ++ rs')) [⟨A', c', (rs ++ rs').map Row.v⟩] ∧ Below lo w w'
theorem own_row {w : World} {lo hi : Nat} {rs : List Row} {os : List Outer} (h : Own w lo hi rs os) {r : Row} (hr : r ∈ rs) (hh : hi ≤ w.heap.size) : r.xs.length ≤ r.c ∧ Rd (Value.int .i64) w w.heap.size r.A r.xs :=
  ⟨h.read.cap r hr, (h.read.rd r hr).more hh⟩

def fillTo (n k : Nat) (p : List Int) (u : Nat) : List (List Int) := ((nums u).filter fun v => !decide (v ∈ p)).flatMap fun v => fillF n k (p ++ [v])
theorem fillTo_succ (n k : Nat) (p : List Int) (u : Nat) : fillTo n k p (u + 1) = if ((u : Int) + 1) ∈ p then fillTo n k p u else fillTo n k p u ++ fillF n k (p ++ [(u : Int) + 1]) := by
  unfold fillTo
  rw [nums_succ, List.filter_append]
  by_cases h : ((u : Int) + 1) ∈ p <;> simp [h]
theorem fillTo_le (n k : Nat) (p : List Int) (u : Nat) : (fillTo n k p u).length ≤ u * n ^ k := by
  have h := flatMap_le (fun v => fillF n k (p ++ [v])) (n ^ k) ((nums u).filter fun v => !decide (v ∈ p)) (fun v _ => fillF_le n k _)
  have h1 := List.length_filter_le (fun v => !decide (v ∈ p)) (nums u)
  rw [nums_length] at h1
  exact Nat.le_trans h (Nat.mul_le_mul_right _ h1)
theorem fillTo_all (n k : Nat) (p : List Int) : fillTo n k p n = fillF n (k + 1) p := rfl

set_option maxHeartbeats 4000000 in
theorem fill_spec (n : Nat) (hn : n ≤ 6) : ∀ (k : Nat) (F rs : List Row) (r : Row) (A : Option Addr) (c lo : Nat) (w : World), r.xs.length + k = n → lo ≤ w.heap.size → rs.length + n ^ k ≤ 1000000 →
    Own w lo w.heap.size (F ++ rs ++ [r]) [⟨A, c, rs.map Row.v⟩] →
    Calls Tryz.prog 69 #[.int .i64 n, .slice r.A r.xs.length r.c, .slice A rs.length c] w (Filled w lo F rs (fillF n k r.xs)) := by
  obtain ⟨i0, hi, hz0, hz1, hz2⟩ := info_parts infoI
  obtain ⟨j0, hj, hy0, hy1, hy2⟩ := info_parts infoL
  intro k
  induction k with
  | zero =>
    intro F rs r A c lo w hr hlo hcount hO
    have hcount : rs.length + 1 ≤ 1000000 := by simpa using hcount
    have d1 : ((r.xs.length : Int) == (n : Int)) = true := by simp; omega
    have ho := hO.outN (n := rs.length) (by simp)
    have HR := Lib.hid hr
    clear hr
    go_enter Tryz.func69, Tryz.ntmps69
    go_wp2_with (at_builtin; refine wpList_append_own _ rfl _ _ 24 rfl (lo) 36 j0 (.slice none 0 0) 1 24 Tryz.underlying24 hj hy0 hy1 hy2 rfl (by decide) _ _ _ rfl (World.ownsRow.alloc ho _) ⟨w.heap.size, 0, none⟩ 1 1 [Value.slice r.A r.xs.length r.c] rfl rfl (cell_one_at _ _ (by simp)) (by intro u hu; simp at hu; subst hu; rfl) (by unfold maxLen; omega) (by omega) (by simp; omega) ?_; intro v9 w9 hown9 hgrow9 _)
    obtain ⟨A5, c5, rfl, hO6, hg3⟩ := hO.grow (Nat.le_refl _) (by simp) hown9 hgrow9
    have hbw := (Below.refl lo w).grown hg3 hlo (fun g hg => (hO.olim (by simp) g hg).1)
    have K := Lib.hid (And.intro hO6 hbw)
    clear hO6 hbw hown9 hgrow9 hg3 hO ho
    go_wp2
    go_ret
    exact ⟨A5, c5, [r], rfl, rfl, by simpa [Row.v, List.append_assoc] using K.out.1, K.out.2⟩
  | succ k ih =>
    intro F rs r A c lo w hr hlo hcount hO
    have d1 : ((r.xs.length : Int) == (n : Int)) = false := by simp; omega
    have hrl : r.xs.length ≤ 6 := by omega
    have hpow : ∀ u, u + 1 ≤ n → u * n ^ k + n ^ k ≤ n ^ (k + 1) := fun u hu => by
      have := Nat.mul_le_mul_right (n ^ k) hu
      rw [Nat.add_mul, Nat.one_mul] at this
      rw [Nat.pow_succ, Nat.mul_comm (n ^ k)]
      exact this
    have hpe := hpow
    have HP := Lib.hid hpow
    have HR := Lib.hid hr
    have HC := Lib.hid hcount
    have hO0 : Own w lo w.heap.size (F ++ [r] ++ (rs ++ [])) [⟨A, c, (rs ++ []).map Row.v⟩] := by
      rw [List.append_nil]
      refine hO.perm ?_
      rw [List.append_assoc, List.append_assoc]
      exact List.Perm.append_left F List.perm_append_comm
    clear hr hcount hpow hpe hO
    go_enter Tryz.func69, Tryz.ntmps69
    go_wp2_with fail
    go_loopw [2, 7] (fun o i wr => ∃ (u : Nat) (A1 : Option Addr) (c1 : Nat) (rs1 : List Row), u ≤ n ∧ i = .int .i64 ((u : Int) + 1) ∧ o = .slice A1 (rs.length + rs1.length) c1 ∧ Hid (rs1.map Row.xs = fillTo n k r.xs u) ∧
      Own wr lo wr.heap.size (F ++ [r] ++ (rs ++ rs1)) [⟨A1, c1, (rs ++ rs1).map Row.v⟩] ∧ Below lo w wr ∧ lo ≤ wr.heap.size) (fun _ i _ => n + 1 - (intOf i).toNat)
    case atStart => exact ⟨0, A, c, [], Nat.zero_le _, rfl, rfl, Lib.hid rfl, hO0, Below.refl _ _, hlo⟩
    case round =>
      clear hO0
      obtain ⟨u, A1, c1, rs1, hu, rfl, rfl, HX, hO, hb, hlo1⟩ := hrel
      have hrd := own_row hO (r := r) (by simp) (Nat.le_refl _)
      rcases Nat.lt_or_ge u n with hlt | hge
      · by_cases hm : ((u : Int) + 1) ∈ r.xs
        · have HM := Lib.hid (decide_eq_true hm)
          have HT := Lib.hid (show fillTo n k r.xs (u + 1) = fillTo n k r.xs u by rw [fillTo_succ, if_pos hm])
          clear hm
          go_wp2_with fail
          (with_reducible refine (l2Has_b r.A r.c r.xs.length r.xs ((u : Int) + 1) wr true rfl (by omega) hrd.2 HM.out).mono ?_)
          rintro e w' ⟨rfl, rfl⟩
          go_wp2_with fail
          go_roundw
          case rel => exact ⟨u + 1, A1, c1, rs1, by omega, by go_num, rfl, Lib.hid (by rw [HT.out]; exact HX.out), hO, hb, hlo1⟩
          case measure => simp [intOf]; omega
        · have HM := Lib.hid (decide_eq_false hm)
          have HT := Lib.hid (show fillTo n k r.xs (u + 1) = fillTo n k r.xs u ++ fillF n k (r.xs ++ [(u : Int) + 1]) by rw [fillTo_succ, if_neg hm])
          have hcnt : (rs ++ rs1).length + n ^ k ≤ 1000000 := by
            have h1 := congrArg List.length HX.out
            have h2 := fillTo_le n k r.xs u
            have h3 := HP.out u hlt
            have h4 := HC.out
            rw [List.length_map] at h1
            rw [List.length_append]
            omega
          clear hm
          go_wp2_with fail
          (with_reducible refine (l2Has_b r.A r.c r.xs.length r.xs ((u : Int) + 1) wr false rfl (by omega) hrd.2 HM.out).mono ?_)
          rintro e w' ⟨rfl, rfl⟩
          have own0 : (wr.alloc (.cells #[] 3)).ownsRow wr.heap.size 3 1 (.slice (some ⟨wr.heap.size, 0, none⟩) 0 0) 0 [] := World.ownsRow_lit wr #[] 0 (Nat.le_refl _) (by unfold maxLen; omega) rfl
          have hx0 := hrd.2.alloc (Nat.le_refl _) (.cells #[] 3)
          have hbA := (Below.refl wr.heap.size wr).alloc (Nat.le_refl _) (.cells #[] 3)
          go_wp2_with (first | ((at_builtin; refine wpList_append_rd _ rfl _ _ 36 rfl (wr.heap.size) 3 i0 (.int .i64 0) 8 Tryz.underlying36 hi hz0 hz1 hz2 rfl _ _ _ rfl own0 _ _ _ _ (r.xs) rfl rfl hx0 (fun _ => rfl) (by unfold maxLen; omega) (by omega) (by first | omega | (simp; done) | (simp; omega)) ?_; intro v1 w1 hown1 hgrow1); simp only [Nat.zero_add, List.nil_append] at hown1; obtain ⟨A3, c3, rfl, _, _⟩ := own_shape hown1; have hbB := hbA.grown hgrow1 (by simp) (fun g hg => (own0.lt g hg).1); have hszB := hbB.size) | (at_builtin; refine wpList_append_own _ rfl _ _ 36 rfl (wr.heap.size) 3 i0 (.int .i64 0) 1 8 Tryz.underlying36 hi hz0 hz1 hz2 rfl (by decide) _ _ _ rfl (World.ownsRow.alloc hown1 _) ⟨w1.heap.size, 0, none⟩ 1 1 [.int .i64 ((u : Int) + 1)] rfl rfl (cell_one_new _ _ _) (by intro u hu; simp at hu; subst hu; rfl) (by unfold maxLen; omega) (by omega) (by simp; omega) ?_; intro v2 w2 hown2 hgrow2 _))
          have hbC := (hbB.alloc hszB (Obj.cells #[Value.int .i64 ((u : Int) + 1)] 3)).grown hgrow2 (by simp; omega) (fun g hg => (hown1.lt g hg).1)
          have hrow : w2.ownsRow wr.heap.size 3 1 v2 (r.xs.length + 1) ((r.xs ++ [(u : Int) + 1]).map (Value.int .i64)) := by simpa using hown2
          obtain ⟨A4, c4, rfl, _, _⟩ := own_shape hrow
          have hszC := hbC.size
          have hO2 := (hO.below hbC).add (r := ⟨A4, c4, r.xs ++ [(u : Int) + 1]⟩) (by simpa [Row.v] using hrow) hszC hlo1
          have HRL := Lib.hid (show (r.xs ++ [(u : Int) + 1]).length + k = n by rw [List.length_append, List.length_singleton]; have := HR.out; omega)
          have hb2 := hb.trans (hbC.mono hlo1)
          clear hown1 hown2 hgrow1 hgrow2 hbA hbB hrow hx0 own0 hO
          have hlo2 : lo ≤ w2.heap.size := by omega
          have IH := ih (F ++ [r]) (rs ++ rs1) ⟨A4, c4, r.xs ++ [(u : Int) + 1]⟩ A1 c1 lo w2 HRL.out hlo2 hcnt hO2
          rw [show (Row.mk A4 c4 (r.xs ++ [(u : Int) + 1])).xs.length = r.xs.length + 1 by simp, List.length_append] at IH
          have IHH := Lib.hid IH
          clear IH hO2
          go_wp2_with fail
          (with_reducible refine IHH.out.mono ?_)
          rintro e w4 ⟨A5, c5, rs2, rfl, hxs, hO4, hb4⟩
          have K := Lib.hid (And.intro hxs (And.intro hO4 (hb2.trans hb4)))
          have hlo4 : lo ≤ w4.heap.size := by have := hb4.size; omega
          clear hxs hO4 hb4 IHH hb2
          go_wp2_with fail
          go_roundw
          case rel => exact ⟨u + 1, A5, c5, rs1 ++ rs2, by omega, by go_num, by rw [List.length_append]; go_num, Lib.hid (by rw [HT.out, List.map_append, HX.out, K.out.1]), by rw [← List.append_assoc rs]; exact K.out.2.1, K.out.2.2, hlo4⟩
          case measure => simp [intOf]; omega
      · obtain rfl : u = n := by omega
        have hO2 : Own wr lo wr.heap.size (F ++ (rs ++ rs1)) [⟨A1, c1, (rs ++ rs1).map Row.v⟩] := hO.sub (by
          rw [List.append_assoc F]
          exact List.Sublist.append_left (List.sublist_append_right _ _) F)
        go_wp2_with fail
        go_ret
        exact ⟨A1, c1, rs1, rfl, HX.out, hO2, hb⟩

def permsG (n : Int) : List (List Int) := if 0 ≤ n ∧ n ≤ 6 then permsL n.toNat else []
set_option maxHeartbeats 1000000 in
theorem permsOf_spec (n : Int) (w : World) : Calls Tryz.prog 29 #[.int .i64 n] w (RetL w (permsG n)) := by
  by_cases h : 0 ≤ n ∧ n ≤ 6
  · obtain ⟨m, rfl⟩ := Int.eq_ofNat_of_zero_le h.1
    have hm : m ≤ 6 := by omega
    have HG := Lib.hid (show permsG m = permsL m by unfold permsG; rw [if_pos h]; rfl)
    have HD := Lib.hid (decide_eq_true h)
    have own0 : (w.alloc (.cells #[] 3)).ownsRow w.heap.size 3 1 (Row.v ⟨some ⟨w.heap.size, 0, none⟩, 0, []⟩) 0 (([] : List Int).map (Value.int .i64)) := World.ownsRow_lit w #[] 0 (Nat.le_refl _) (by unfold maxLen; omega) rfl
    have hA : Own (w.alloc (.cells #[] 3)) w.heap.size (w.heap.size + 1) [⟨some ⟨w.heap.size, 0, none⟩, 0, []⟩] [] := by
      have := Own.add (os := []) (r := ⟨some ⟨w.heap.size, 0, none⟩, 0, []⟩) (Own.nil_ (w := w.alloc (.cells #[] 3)) (lo := w.heap.size) (hi := w.heap.size)) own0 (by simp) (Nat.le_refl _)
      simpa using this
    have hB : Own ((w.alloc (.cells #[] 3)).alloc (.cells #[] 36)) w.heap.size (w.heap.size + 1 + 1) [⟨some ⟨w.heap.size, 0, none⟩, 0, []⟩] [⟨some ⟨w.heap.size + 1, 0, none⟩, 0, []⟩] := by
      have h1 := hA.below ((Below.refl _ _).alloc (Nat.le_refl _) (.cells #[] 36))
      have h2 := (h1.wider (Nat.le_refl _) (Nat.le_succ _)).with_ (A := some ⟨w.heap.size + 1, 0, none⟩) (c := 0) (vs := []) (by
        have := World.ownsRow_lit (base := w.heap.size) (e := 36) (size := 1) (w.alloc (.cells #[] 3)) #[] 0 (by simp) (by unfold maxLen; omega) rfl
        simpa using this) (by simp)
      exact h2
    have hb0 : Below w.heap.size w ((w.alloc (.cells #[] 3)).alloc (.cells #[] 36)) := ((Below.refl _ _).alloc (Nat.le_refl _) _).alloc (by simp) _
    have hp := pow_six hm hm
    have FSc := Lib.hid (show Calls Tryz.prog 69 #[.int .i64 m, .slice (some ⟨w.heap.size, 0, none⟩) 0 0, .slice (some ⟨w.heap.size + 1, 0, none⟩) 0 0] ((w.alloc (.cells #[] 3)).alloc (.cells #[] 36)) (Filled _ w.heap.size [] [] (fillF m m [])) from
      fill_spec m hm m [] [] ⟨some ⟨w.heap.size, 0, none⟩, 0, []⟩ (some ⟨w.heap.size + 1, 0, none⟩) 0 w.heap.size ((w.alloc (.cells #[] 3)).alloc (.cells #[] 36)) (by simp) (by simp; omega) (by simp; omega) (by simpa using hB))
    clear h own0 hA
    go_enter Tryz.func29, Tryz.ntmps29
    go_wp2_with fail
    (with_reducible refine (l1In_b (m : Int) 0 6 w true HD.out).mono ?_)
    rintro e w' ⟨rfl, rfl⟩
    go_wp2_with fail
    (with_reducible refine FSc.out.mono ?_)
    rintro e w1 ⟨A5, c5, rs2, rfl, hxs, hO4, hb4⟩
    have K := Lib.hid hxs
    clear hxs
    go_wp2_with fail
    go_ret
    rw [HG.out]
    exact ⟨A5, c5, rs2, by simp, by rw [K.out, fill_perms], by simpa using hO4, hb0.trans hb4⟩
  · have HG := Lib.hid (show permsG n = [] by unfold permsG; rw [if_neg h])
    have HD := Lib.hid (decide_eq_false h)
    have hB := Own.lit (lo := w.heap.size) w (Nat.le_refl _)
    have hb0 := (Below.refl w.heap.size w).alloc (Nat.le_refl _) (.cells #[] 36)
    clear h
    go_enter Tryz.func29, Tryz.ntmps29
    go_wp2_with fail
    (with_reducible refine (l1In_b n 0 6 w false HD.out).mono ?_)
    rintro e w' ⟨rfl, rfl⟩
    go_wp2_with fail
    go_ret
    rw [HG.out]
    exact ⟨_, _, [], rfl, rfl, hB, hb0⟩
end Go.Proofs.YtodloeonlaljpaaGreat

/- Counting permutations for which something holds; AvoidRuns. -/
namespace Go.Proofs.YtodloeonlaljpaaGreat
set_option maxRecDepth 100000
open Go Go.RowKit

theorem isPerm_ib (A : Option Addr) (c : Nat) (xs : List Int) (w : World) (b : Bool) (h : In w A c xs) (hb : permB xs = b) : Calls Tryz.prog 71 #[.slice A xs.length c] w (Rb w (.bool b)) := by
  subst hb; exact isPerm_impl A c xs w h
theorem isPerm_sb (A : Option Addr) (c : Nat) (xs : List Int) (w : World) (b : Bool) (h : In w A c xs) (hb : permB xs = b) : Calls Tryz.prog 66 #[.slice A xs.length c] w (Rq w (.bool b)) := by
  subst hb; exact isPerm_spec A c xs w h
theorem l1Bit_b (b : Bool) (n : Int) (w : World) (hb : (if b = true then 1 else 0) = n) : Calls Tryz.prog 42 #[.bool b] w fun e w' => e = .returned (.int .i64 n) ∧ w = w' := by
  subst hb; exact l1Bit_q b w
/-- How many of the first k have it. -/
def cntTo {α : Type} (H : α → Bool) (l : List α) (k : Nat) : Nat := ((l.take k).filter H).length
theorem cntTo_succ {α : Type} (H : α → Bool) (l : List α) (k : Nat) (h : k < l.length) : cntTo H l (k + 1) = cntTo H l k + (if H l[k] = true then 1 else 0) := by
  unfold cntTo
  rw [List.take_succ_eq_append_getElem h, List.filter_append, List.length_append]
  by_cases hh : H l[k] = true <;> simp [hh]
theorem cntTo_le {α : Type} (H : α → Bool) (l : List α) (k : Nat) : cntTo H l k ≤ k := by
  unfold cntTo
  have h1 := List.length_filter_le H (l.take k)
  have h2 := List.length_take_le k l
  omega
theorem cntTo_all {α : Type} (H : α → Bool) (l : List α) : cntTo H l l.length = (l.filter H).length := by unfold cntTo; rw [List.take_length]
theorem permsL_le {n : Nat} (hn : n ≤ 6) : (permsL n).length ≤ 46656 := Nat.le_trans (permsI_le n n) (pow_six hn hn)
theorem row_in {w : World} {B : Nat} {rs : List Row} {os : List Outer} (h : Read w B rs os) {r : Row} (hr : r ∈ rs) (hl : r.xs.length ≤ 1048576) (hB : B ≤ w.heap.size) : In w r.A r.c r.xs := ⟨hl, h.cap r hr, (h.rd r hr).more hB⟩
theorem map_getX {rs : List Row} {L : List (List Int)} (h : rs.map Row.xs = L) {j : Nat} (hj : j < rs.length) : rs[j].xs = L[j]'(by rw [← h, List.length_map]; exact hj) := by
  subst h; simp
theorem map_memX {rs : List Row} {L : List (List Int)} (h : rs.map Row.xs = L) {r : Row} (hr : r ∈ rs) : r.xs ∈ L := by
  subst h; exact List.mem_map.2 ⟨r, hr, rfl⟩

def sixB (n : Int) : Bool := decide (0 ≤ n ∧ n ≤ 6)
theorem isSix_any (n : Int) (w : World) (b : Bool) (hb : sixB n = b) : Calls Tryz.prog 55 #[.int .i64 n] w fun e w' => e = .returned (.bool b) ∧ w = w' := by
  subst hb
  by_cases h0 : 0 ≤ n
  · by_cases h6 : n ≤ 6
    · have HS := Lib.hid (show sixB n = true by simp [sixB, h0, h6])
      go_enter Tryz.func55, Tryz.ntmps55
      go_wp2
      go_ret
      exact ⟨ret_bool (by rw [HS.out]), rfl⟩
    · have HS := Lib.hid (show sixB n = false by simp [sixB, h6])
      go_enter Tryz.func55, Tryz.ntmps55
      go_wp2
      go_ret
      exact ⟨ret_bool (by rw [HS.out]), rfl⟩
  · have HS := Lib.hid (show sixB n = false by simp [sixB, h0])
    go_enter Tryz.func55, Tryz.ntmps55
    go_wp2
    go_ret
    exact ⟨ret_bool (by rw [HS.out]), rfl⟩



end Go.Proofs.YtodloeonlaljpaaGreat
