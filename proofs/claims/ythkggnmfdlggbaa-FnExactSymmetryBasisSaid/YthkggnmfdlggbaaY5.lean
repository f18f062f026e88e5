/- SymmetryBasis, program and reference. -/
import Derived.Test.YthkggnmfdlggbaaY4
namespace Go.Proofs.Ythkggnmfdlggbaa
set_option maxRecDepth 100000
open Go Go.RowKit

def symM (X : List (List Int)) (k : Nat) : List (List Int) := X.map fun p => symL p k
theorem symM_succ (X : List (List Int)) (k j : Nat) (h : j < X.length) : symM (X.take (j + 1)) k = symM (X.take j) k ++ [symL X[j] k] := by
  unfold symM; rw [List.take_succ_eq_append_getElem h, List.map_append]; rfl
def symB (X : List (List Int)) (k : Int) : Bool := basisB X && decide (0 ≤ k ∧ k ≤ 7)
def symG (X : List (List Int)) (k : Int) : List (List Int) := if symB X k = true then ordL (symM X k.toNat) else []
theorem symM_small {X : List (List Int)} (h : basisB X = true) (k : Nat) : ∀ q ∈ symM X k, q.length ≤ 8 := fun q hq => by
  obtain ⟨p, hp, rfl⟩ := List.mem_map.1 hq
  exact symL_len (permB_true (basis_perm h p hp)).1 k
theorem rows_size {rs : List Row} (h : ∀ r ∈ rs, r.xs.length ≤ 8) : sizeR rs ≤ rs.length * 8 := by
  induction rs with
  | nil => simp [sizeR]
  | cons a t ih =>
    have h1 := h a (by simp)
    have h2 := ih (fun q hq => h q (by simp [hq]))
    simp only [sizeR, List.map_cons, List.sum_cons, List.length_cons, Nat.add_mul, Nat.one_mul] at h2 ⊢
    omega
theorem lists_size {X : List (List Int)} (h : ∀ q ∈ X, q.length ≤ 8) : sizeX X ≤ X.length * 8 := by
  induction X with
  | nil => simp [sizeX]
  | cons a t ih =>
    have h1 := h a (by simp)
    have h2 := ih (fun q hq => h q (by simp [hq]))
    simp only [sizeX, List.map_cons, List.sum_cons, List.length_cons, Nat.add_mul, Nat.one_mul] at h2 ⊢
    omega
theorem symG_le (X : List (List Int)) (k : Int) : (symG X k).length + sizeX (symG X k) ≤ 1048576 := by
  unfold symG
  split
  · rename_i h
    unfold symB at h
    rw [Bool.and_eq_true] at h
    have h1 := ordL_size (symM X k.toNat)
    have h2 := lists_size (symM_small h.1 k.toNat)
    have h3 := basis_len h.1
    have h4 : (symM X k.toNat).length = X.length := by simp [symM]
    omega
  · simp [sizeX]
set_option maxHeartbeats 4000000 in
theorem symBasis_impl (A : Option Addr) (c : Nat) (qs : List Row) (k : Int) (_ : -9223372036854775808 ≤ k ∧ k ≤ 9223372036854775807) (w : World) (h : InL w A c qs) :
    Calls Try.prog 32 #[.slice A qs.length c, .int .i64 k] w (RetLb w (symG (qs.map Row.xs) k) (symB (qs.map Row.xs) k)) := by
  obtain ⟨j0, hj, hy0, hy1, hy2⟩ := info_parts infoL
  have hlen := h.len
  by_cases hB : basisB (qs.map Row.xs) = true
  · have HBT := Lib.hid hB
    have h8 := basis_len hB
    rw [List.length_map] at h8
    have HPP := Lib.hid (basis_perm hB)
    go_enter Try.func32, Try.ntmps32
    go_wp2_with fail
    (with_reducible refine (basis_ib A c qs w true h hB).mono ?_)
    rintro e w1 ⟨rfl, hb1⟩
    clear hB
    by_cases hk : 0 ≤ k ∧ k ≤ 7
    · have HF := Lib.hid (show symB (qs.map Row.xs) k = true by unfold symB; rw [HBT.out, decide_eq_true hk]; rfl)
      have HG := Lib.hid (show symG (qs.map Row.xs) k = ordL (symM (qs.map Row.xs) k.toNat) by unfold symG; rw [if_pos HF.out])
      obtain ⟨m, rfl⟩ := Int.eq_ofNat_of_zero_le hk.1
      have hm : m ≤ 7 := by omega
      rw [Int.toNat_natCast] at HG
      have d1 : decide ((m : Int) < 0) = false := decide_eq_false (by omega)
      have d2 : decide ((m : Int) > 7) = false := decide_eq_false (by omega)
      have d2' : decide (7 < (m : Int)) = false := decide_eq_false (by omega)
      have hlit := Own.lit (lo := w.heap.size) w1 hb1.size
      have hb0 := hb1.alloc hb1.size (.cells #[] 22)
      clear hk
      go_wp2_with fail
      go_loopw [6, 23] (fun v i wr => ∃ (j : Nat) (A1 : Option Addr) (c1 : Nat) (ds : List Row), j ≤ qs.length ∧ i = .int .i64 j ∧ v = .slice A1 ds.length c1 ∧ Hid (ds.map Row.xs = symM ((qs.map Row.xs).take j) m) ∧ Own wr w.heap.size wr.heap.size ds [⟨A1, c1, ds.map Row.v⟩] ∧ Below w.heap.size w wr) (fun _ i _ => qs.length - (intOf i).toNat)
      case atStart => exact ⟨0, _, _, [], Nat.zero_le _, rfl, rfl, Lib.hid rfl, hlit, hb0⟩
      case round =>
        clear hlit hb0
        obtain ⟨j, A1, c1, ds, hjl, rfl, rfl, HX, hO, hb⟩ := hrel
        have hdl : ds.length = j := by have := congrArg List.length HX.out; simp [symM] at this; omega
        have hsz := hb.size
        rcases Nat.lt_or_ge j qs.length with hlt | hge
        · obtain ⟨b, off, rfl, _, hc⟩ := (h.next hb).read.at (by omega)
          have c1' := hc j hlt
          have hin := (h.next hb).row (List.getElem_mem hlt)
          have HT := Lib.hid (show symM ((qs.map Row.xs).take (j + 1)) m = symM ((qs.map Row.xs).take j) m ++ [symL qs[j].xs m] by rw [symM_succ _ _ _ (by simpa using hlt)]; simp)
          have HPJ := Lib.hid (show permB qs[j].xs = true from HPP.out _ (List.mem_map.2 ⟨qs[j], List.getElem_mem hlt, rfl⟩))
          have hkd : ds.length ≤ 8 := by omega
          have HD := Lib.hid hdl
          clear hc hdl
          go_wp2_with fail
          (with_reducible refine (symmetry_impl qs[j].A qs[j].c qs[j].xs m wr hin HPJ.out hm).mono ?_)
          rintro e w2 ⟨A3, c3, rfl, _, _, own3, hbB⟩
          have hszB := hbB.size
          have hO2 := (hO.below hbB).add (r := ⟨A3, c3, symL qs[j].xs m⟩) own3 hszB hsz
          have ho2 := hO2.outN (n := ds.length) (by simp)
          clear own3 hO
          go_wp2_with (at_builtin; refine wpList_append_own _ rfl _ _ 33 rfl (w.heap.size) 22 j0 (.slice none 0 0) 1 24 Try.underlying33 hj hy0 hy1 hy2 rfl (by decide) _ _ _ rfl (World.ownsRow.alloc ho2 _) ⟨w2.heap.size, 0, none⟩ 1 1 [Value.slice A3 (symL qs[j].xs m).length c3] rfl rfl (cell_one_at _ _ (by simp)) (by intro u hu; simp at hu; subst hu; rfl) (by unfold maxLen; omega) (by omega) (by simp; omega) ?_; intro v9 w9 hown9 hgrow9 _)
          obtain ⟨A5, c5, rfl, hO3, hg3⟩ := hO2.grow (Nat.le_refl _) (by simp) hown9 hgrow9
          have hbw := (hb.trans (hbB.mono hsz)).grown hg3 (by omega) (fun g hg => (hO2.olim (by simp) g hg).1)
          have K := Lib.hid (And.intro hO3 hbw)
          clear hO3 hbw hown9 hgrow9 hg3 hO2 ho2 hbB hb
          go_wp2_with fail
          go_roundw
          case rel => exact ⟨j + 1, A5, c5, ds ++ [⟨A3, c3, symL qs[j].xs m⟩], by omega, by go_num, by rw [List.length_append]; rfl, Lib.hid (by rw [HT.out, List.map_append, HX.out]; rfl), by simpa [Row.v] using K.out.1, K.out.2⟩
          case measure => simp [intOf]; omega
        · obtain rfl : j = qs.length := by omega
          have HT := Lib.hid (show ds.map Row.xs = symM (qs.map Row.xs) m by rw [HX.out, List.take_of_length_le (by simp)])
          have hL : InL wr A1 c1 ds := ⟨by
            have h1 := rows_size (rs := ds) (fun r hr => symM_small HBT.out m _ (by rw [← HT.out]; exact List.mem_map.2 ⟨r, hr, rfl⟩))
            omega, hO.read⟩
          have ct := Lib.hid (ordered_impl A1 c1 ds wr hL)
          clear hL hO hdl
          go_wp2_with fail
          (with_reducible refine ct.out.mono ?_)
          rintro e w2 ⟨A4, c4, os, rfl, hX4, hO4, hb4⟩
          rw [HT.out] at hX4
          have HX4 := Lib.hid hX4
          clear hX4
          go_wp2_with fail
          go_ret2
          rw [HG.out, HF.out]
          exact ⟨A4, c4, os, rfl, HX4.out, hO4.wider hsz (Nat.le_refl _), hb.trans (hb4.mono hsz)⟩
    · have HF := Lib.hid (show symB (qs.map Row.xs) k = false by unfold symB; rw [decide_eq_false hk, Bool.and_false])
      have HG := Lib.hid (show symG (qs.map Row.xs) k = [] by unfold symG; rw [HF.out]; rfl)
      by_cases h0 : k < 0
      · have d1 : decide (k < 0) = true := decide_eq_true h0
        clear hk h0
        go_wp2_with fail
        go_ret2
        rw [HG.out, HF.out]
        exact ⟨none, 0, [], rfl, rfl, Own.nil_list _ _ _, hb1⟩
      · have d1 : decide (k < 0) = false := decide_eq_false h0
        have d2 : decide (k > 7) = true := decide_eq_true (by omega)
        have d2' : decide (7 < k) = true := decide_eq_true (by omega)
        clear hk h0
        go_wp2_with fail
        go_ret2
        rw [HG.out, HF.out]
        exact ⟨none, 0, [], rfl, rfl, Own.nil_list _ _ _, hb1⟩
  · have hBf : basisB (qs.map Row.xs) = false := by simpa using hB
    have HF := Lib.hid (show symB (qs.map Row.xs) k = false by unfold symB; rw [hBf, Bool.false_and])
    have HG := Lib.hid (show symG (qs.map Row.xs) k = [] by unfold symG; rw [HF.out]; rfl)
    go_enter Try.func32, Try.ntmps32
    go_wp2_with fail
    (with_reducible refine (basis_ib A c qs w false h hBf).mono ?_)
    rintro e w1 ⟨rfl, hb1⟩
    clear hB hBf
    go_wp2_with fail
    go_ret2
    rw [HG.out, HF.out]
    exact ⟨none, 0, [], rfl, rfl, Own.nil_list _ _ _, hb1⟩
set_option maxHeartbeats 4000000 in
theorem symBasis_spec (A : Option Addr) (c : Nat) (qs : List Row) (k : Int) (_ : -9223372036854775808 ≤ k ∧ k ≤ 9223372036854775807) (w : World) (h : InL w A c qs) :
    Calls Try.prog 31 #[.slice A qs.length c, .int .i64 k] w (RetLb w (symG (qs.map Row.xs) k) (symB (qs.map Row.xs) k)) := by
  have hlen := h.len
  by_cases hB : basisB (qs.map Row.xs) = true
  · have HBT := Lib.hid hB
    have h8 := basis_len hB
    rw [List.length_map] at h8
    have HPP := Lib.hid (basis_perm hB)
    go_enter Try.func31, Try.ntmps31
    go_wp2_with fail
    (with_reducible refine (basis_sb A c qs w true h hB).mono ?_)
    rintro e w1 ⟨rfl, hb1⟩
    have hlit := Own.lit (lo := w.heap.size) w1 hb1.size
    have hb0 := hb1.alloc hb1.size (.cells #[] 22)
    clear hB
    go_wp2_with fail
    by_cases hk : 0 ≤ k ∧ k ≤ 7
    · have HF := Lib.hid (show symB (qs.map Row.xs) k = true by unfold symB; rw [HBT.out, decide_eq_true hk]; rfl)
      have HG := Lib.hid (show symG (qs.map Row.xs) k = ordL (symM (qs.map Row.xs) k.toNat) by unfold symG; rw [if_pos HF.out])
      (with_reducible refine (l1In_b k 0 7 w1 true (decide_eq_true hk)).mono ?_)
      rintro e w' ⟨rfl, rfl⟩
      obtain ⟨m, rfl⟩ := Int.eq_ofNat_of_zero_le hk.1
      have hm : m ≤ 7 := by omega
      rw [Int.toNat_natCast] at HG
      clear hk
      go_wp2_with fail
      go_loopw [6, 7] (fun v i wr => ∃ (j : Nat) (A1 : Option Addr) (c1 : Nat) (ds : List Row), j ≤ qs.length ∧ i = .int .i64 j ∧ v = .slice A1 ds.length c1 ∧ Hid (ds.map Row.xs = ordL (symM ((qs.map Row.xs).take j) m)) ∧ Own wr w.heap.size wr.heap.size ds [⟨A1, c1, ds.map Row.v⟩] ∧ Below w.heap.size w wr) (fun _ i _ => qs.length - (intOf i).toNat)
      case atStart => exact ⟨0, _, _, [], Nat.zero_le _, rfl, rfl, Lib.hid rfl, hlit, hb0⟩
      case round =>
        clear hlit hb0
        obtain ⟨j, A1, c1, ds, hjl, rfl, rfl, HX, hO, hb⟩ := hrel
        have hsz := hb.size
        have hdl : ds.length ≤ 8 := by
          have h1 := congrArg List.length HX.out
          have h2 := ordL_len (symM ((qs.map Row.xs).take j) m)
          simp only [symM, List.length_map, List.length_take] at h1 h2
          omega
        have HD8 := Lib.hid (show ∀ r ∈ ds, r.xs.length ≤ 1048576 from fun r hr => by
          have h1 := map_memX HX.out hr
          rw [ordL_mem] at h1
          have h2 : r.xs ∈ symM (qs.map Row.xs) m := by
            obtain ⟨q, hq, he⟩ := List.mem_map.1 h1
            exact List.mem_map.2 ⟨q, List.mem_of_mem_take hq, he⟩
          have := symM_small HBT.out m _ h2
          omega)
        rcases Nat.lt_or_ge j qs.length with hlt | hge
        · obtain ⟨b, off, rfl, _, hc⟩ := (h.next hb).read.at (by omega)
          have c1' := hc j hlt
          have hin := (h.next hb).row (List.getElem_mem hlt)
          have HT := Lib.hid (show ordL (symM ((qs.map Row.xs).take (j + 1)) m) = putL (ds.map Row.xs) (symL qs[j].xs m) by
            rw [symM_succ _ _ _ (by simpa using hlt), HX.out]
            unfold ordL
            rw [List.foldl_append]
            simp)
          have HPJ := Lib.hid (show permB qs[j].xs = true from HPP.out _ (List.mem_map.2 ⟨qs[j], List.getElem_mem hlt, rfl⟩))
          have HO := Lib.hid hO
          clear hc hO
          go_wp2_with fail
          (with_reducible refine (l3Symmetry_any qs[j].A qs[j].c qs[j].xs m wr hin HPJ.out hm).mono ?_)
          rintro e w2 ⟨A3, c3, rfl, _, _, own3, hbB⟩
          have hb2 := hb.trans (hbB.mono hsz)
          have hO1 := (HO.out.below hbB).wider (Nat.le_refl _) hbB.size
          have hs2 := hb2.size
          have hl3 := symL_len (permB_true HPJ.out).1 m
          have hin3 : In w2 A3 c3 (symL qs[j].xs m) := In.own own3 (by omega)
          have ct := Lib.hid (l3Put_any A1 A3 c1 c3 w.heap.size ds (symL qs[j].xs m) w2 hO1 hs2 hin3 (by omega) HD8.out)
          have hol := hO1.olim (n := ds.length) (by simp)
          clear hO1 hbB own3 hin3
          go_wp2_with fail
          (with_reducible refine ct.out.mono ?_)
          rintro e w3 ⟨A4, c4, ps, rfl, hX4, hO4, hg4⟩
          have hb4 := hb2.grown hg4 hs2 (fun g hg => (hol g (by rw [← hg]; exact ownBlock_len _ _ _ _ _)).1)
          have K := Lib.hid (And.intro hX4 (And.intro hO4 hb4))
          clear hX4 hO4 hb4 hg4 hol
          go_wp2_with fail
          go_roundw
          case rel => exact ⟨j + 1, A4, c4, ps, by omega, by go_num, rfl, Lib.hid (by rw [HT.out, K.out.1]), K.out.2.1, K.out.2.2⟩
          case measure => simp [intOf]; omega
        · obtain rfl : j = qs.length := by omega
          have HT := Lib.hid (show ds.map Row.xs = ordL (symM (qs.map Row.xs) m) by rw [HX.out, List.take_of_length_le (by simp)])
          go_wp2_with fail
          go_ret2
          rw [HG.out, HF.out]
          exact ⟨A1, c1, ds, rfl, HT.out, hO, hb⟩
    · have HF := Lib.hid (show symB (qs.map Row.xs) k = false by unfold symB; rw [decide_eq_false hk, Bool.and_false])
      have HG := Lib.hid (show symG (qs.map Row.xs) k = [] by unfold symG; rw [HF.out]; rfl)
      (with_reducible refine (l1In_b k 0 7 w1 false (decide_eq_false hk)).mono ?_)
      rintro e w' ⟨rfl, rfl⟩
      clear hk
      go_wp2_with fail
      go_ret2
      rw [HG.out, HF.out]
      exact ⟨_, _, [], rfl, rfl, hlit, hb0⟩
  · have hBf : basisB (qs.map Row.xs) = false := by simpa using hB
    have HF := Lib.hid (show symB (qs.map Row.xs) k = false by unfold symB; rw [hBf, Bool.false_and])
    have HG := Lib.hid (show symG (qs.map Row.xs) k = [] by unfold symG; rw [HF.out]; rfl)
    go_enter Try.func31, Try.ntmps31
    go_wp2_with fail
    (with_reducible refine (basis_sb A c qs w false h hBf).mono ?_)
    rintro e w1 ⟨rfl, hb1⟩
    have hlit := Own.lit (lo := w.heap.size) w1 hb1.size
    have hb0 := hb1.alloc hb1.size (.cells #[] 22)
    clear hB hBf
    go_wp2_with fail
    go_ret2
    rw [HG.out, HF.out]
    exact ⟨_, _, [], rfl, rfl, hlit, hb0⟩
end Go.Proofs.Ythkggnmfdlggbaa
