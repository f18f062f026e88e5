/- Several texts in one, each with its own head: U5, OK2, D13. No program of ours. -/
import Derived.Test.YtodloeonlaljpaaGreatMMeets10
/- UnionUpTo, program and reference. -/
namespace Go.Proofs.YtodloeonlaljpaaGreat
set_option maxRecDepth 100000
open Go Go.RowKit

/-- In one of two classes. -/
def unH (X Y : List (List Int)) (p : List Int) : Bool := avoidB X p || avoidB Y p
def unI (X Y : List (List Int)) (m : Nat) : List (List Int) := (List.range m).flatMap fun k => (permsL k).filter (unH X Y)
def unS (X Y : List (List Int)) (m : Nat) : List (List Int) := (List.range m).flatMap fun k => clsL X k ++ clsL Y k
theorem unI_succ (X Y : List (List Int)) (m : Nat) : unI X Y (m + 1) = unI X Y m ++ (permsL m).filter (unH X Y) := by simp [unI, List.range_succ]
theorem unS_succ (X Y : List (List Int)) (m : Nat) : unS X Y (m + 1) = unS X Y m ++ (clsL X m ++ clsL Y m) := by simp [unS, List.range_succ]
theorem un_mem (X Y : List (List Int)) (m : Nat) (p : List Int) : p ∈ unI X Y m ↔ p ∈ unS X Y m := by
  unfold unI unS
  rw [List.mem_flatMap, List.mem_flatMap]
  constructor
  · rintro ⟨k, hk, h⟩
    refine ⟨k, hk, ?_⟩
    rw [List.mem_filter] at h
    unfold unH at h
    rw [Bool.or_eq_true] at h
    rw [List.mem_append]
    unfold clsL
    rw [List.mem_filter, List.mem_filter]
    rcases h.2 with h2 | h2
    · exact .inl ⟨h.1, h2⟩
    · exact .inr ⟨h.1, h2⟩
  · rintro ⟨k, hk, h⟩
    refine ⟨k, hk, ?_⟩
    rw [List.mem_append] at h
    unfold clsL at h
    rw [List.mem_filter, List.mem_filter] at h
    rw [List.mem_filter]
    unfold unH
    rw [Bool.or_eq_true]
    rcases h with h | h
    · exact ⟨h.1, .inl h.2⟩
    · exact ⟨h.1, .inr h.2⟩
theorem bupK_congr {L L' : List (List Int)} (h : ∀ p, p ∈ L ↔ p ∈ L') (p : List Int) : bupK L p = bupK L' p := by
  have hd : ∀ q, decide (q ∈ L) = decide (q ∈ L') := fun q => decide_eq_decide.2 (h q)
  unfold bupK
  rw [hd p]
  congr 1
  have : bupP L = bupP L' := by
    funext q
    unfold bupP
    rw [hd q]
  rw [this]
theorem bupL_congr {L L' : List (List Int)} (h : ∀ p, p ∈ L ↔ p ∈ L') (n : Nat) : bupL L n = bupL L' n := by
  unfold bupL
  rw [show bupK L = bupK L' from funext (bupK_congr h)]
theorem pow_le5 {m : Nat} (hm : m ≤ 5) : m ^ m ≤ 3125 := by
  rcases (show m = 0 ∨ m = 1 ∨ m = 2 ∨ m = 3 ∨ m = 4 ∨ m = 5 by omega) with rfl | rfl | rfl | rfl | rfl | rfl <;> decide
theorem permsL_le5 {m : Nat} (hm : m ≤ 5) : (permsL m).length ≤ 3125 := Nat.le_trans (permsI_le m m) (pow_le5 hm)
theorem unI_le (X Y : List (List Int)) {m : Nat} (hm : m ≤ 6) : (unI X Y m).length ≤ m * 3125 := by
  induction m with
  | zero => simp [unI]
  | succ m ih =>
    have h1 := ih (by omega)
    have h2 := List.length_filter_le (unH X Y) (permsL m)
    have h3 := permsL_le5 (m := m) (by omega)
    rw [unI_succ, List.length_append]
    omega
theorem unS_le (X Y : List (List Int)) {m : Nat} (hm : m ≤ 6) : (unS X Y m).length ≤ m * 6250 := by
  induction m with
  | zero => simp [unS]
  | succ m ih =>
    have h1 := ih (by omega)
    have h2 := List.length_filter_le (avoidB X) (permsL m)
    have h4 := List.length_filter_le (avoidB Y) (permsL m)
    have h3 := permsL_le5 (m := m) (by omega)
    rw [unS_succ, List.length_append, List.length_append]
    unfold clsL
    omega
theorem unI_perm {X Y : List (List Int)} {m : Nat} (hm : m ≤ 6) {p : List Int} (h : p ∈ unI X Y m) : permB p = true ∧ p.length ≤ 5 := by
  unfold unI at h
  obtain ⟨k, hk, hp⟩ := List.mem_flatMap.1 h
  have hk := List.mem_range.1 hk
  have h1 := permsL_perm (n := k) (by omega) (List.mem_filter.1 hp).1
  exact ⟨h1.1, by omega⟩
def unOk (X Y : List (List Int)) (n : Int) : Bool := basisB X && basisB Y && decide (0 ≤ n ∧ n ≤ 5)
def unG (X Y : List (List Int)) (n : Int) : List (List Int) := if unOk X Y n = true then bupL (unI X Y (n.toNat + 1)) n.toNat else []
theorem unG_le (X Y : List (List Int)) (n : Int) : (unG X Y n).length + sizeX (unG X Y n) ≤ 1048576 := by
  unfold unG
  by_cases h : unOk X Y n = true
  · rw [if_pos h]
    unfold unOk at h
    rw [Bool.and_eq_true, decide_eq_true_eq] at h
    have h1 := bupL_le (unI X Y (n.toNat + 1)) n.toNat (by omega)
    have h2 := sizeX_of (X := bupL (unI X Y (n.toNat + 1)) n.toNat) (m := 6) (fun s hs => by have := bupL_mem hs; omega)
    omega
  · rw [if_neg h]; simp [sizeX]
theorem unS_in {X Y : List (List Int)} {m : Nat} (hm : m ≤ 6) {rs : List Row} (h : rs.map Row.xs = unS X Y m) : rs.length + sizeR rs ≤ 1048576 := by
  have h1 := congrArg List.length h
  have h2 := unS_le X Y hm
  have h3 := sizeX_of (X := rs.map Row.xs) (m := 5) (fun s hs => by rw [h, ← un_mem] at hs; exact (unI_perm hm hs).2)
  rw [sizeR_eq]
  rw [List.length_map] at h1 h3
  omega
theorem unI_in {X Y : List (List Int)} {m : Nat} (hm : m ≤ 6) {rs : List Row} (h : rs.map Row.xs = unI X Y m) : rs.length + sizeR rs ≤ 1048576 := by
  have h1 := congrArg List.length h
  have h2 := unI_le X Y hm
  have h3 := sizeX_of (X := rs.map Row.xs) (m := 5) (fun s hs => by rw [h] at hs; exact (unI_perm hm hs).2)
  rw [sizeR_eq]
  rw [List.length_map] at h1 h3
  omega
/-- A list's rows that were made just now go behind the rows of another list. -/
theorem own_join {w w1 w2 : World} {lo : Nat} {prior ns : List Row} {A A3 : Option Addr} {c c3 n : Nat} {v : Value} (hlo : lo ≤ w.heap.size) (hO : Own w lo w.heap.size prior [⟨A, c, prior.map Row.v⟩]) (hN : Own w1 w.heap.size w1.heap.size ns [⟨A3, c3, ns.map Row.v⟩]) (hb : Below w.heap.size w w1)
    (hn : prior.length = n) (h1 : w2.ownsRow lo 36 1 v (n + ns.length) (prior.map Row.v ++ ns.map Row.v)) (hg : w1.grownBy w2 (Value.slice A n c).ownBlock) :
    ∃ A5 c5, v = .slice A5 (n + ns.length) c5 ∧ Own w2 lo w2.heap.size (prior ++ ns) [⟨A5, c5, (prior ++ ns).map Row.v⟩] := by
  subst hn
  obtain ⟨A5, c5, rfl, _, _⟩ := own_shape h1
  have hr : Own w1 lo w1.heap.size (prior ++ ns) [] := (hO.below hb).bare.app hN.bare hlo hb.size
  have h2 := (hr.with_ (A := A) (c := c) (vs := prior.map Row.v) (own_below hO.out hb) (Nat.le_refl _)).kept (Nat.le_refl _) (show (prior.map Row.v).length = prior.length by simp) hg
  refine ⟨A5, c5, rfl, h2.with_ (A := A5) (c := c5) ?_ (Nat.le_refl _)⟩
  have e : ((prior ++ ns).map Row.v).length = prior.length + ns.length := by simp
  rw [e, List.map_append]
  exact h1
set_option maxHeartbeats 4000000 in
theorem unionUpTo_spec (A : Option Addr) (c : Nat) (ps : List Row) (B : Option Addr) (d : Nat) (qs : List Row) (n : Int) (hnn : -9223372036854775808 ≤ n ∧ n ≤ 9223372036854775807) (w : World) (ha : InL w A c ps) (hq : InL w B d qs) :
    Calls Tryz.prog 19 #[.slice A ps.length c, .slice B qs.length d, .int .i64 n] w (RetL w (unG (ps.map Row.xs) (qs.map Row.xs) n)) := by
  obtain ⟨j0, hj, hy0, hy1, hy2⟩ := info_parts infoL
  by_cases hB : basisB (ps.map Row.xs) = true
  · have H1 := Lib.hid hB
    by_cases hP : basisB (qs.map Row.xs) = true
    · have H2 := Lib.hid hP
      by_cases h5 : 0 ≤ n ∧ n ≤ 5
      · have H5 := Lib.hid (decide_eq_true h5)
        have HG := Lib.hid (show unG (ps.map Row.xs) (qs.map Row.xs) n = bupL (unI (ps.map Row.xs) (qs.map Row.xs) (n.toNat + 1)) n.toNat by unfold unG unOk; rw [hB, hP, decide_eq_true h5]; rfl)
        obtain ⟨N, rfl⟩ := Int.eq_ofNat_of_zero_le h5.1
        have hN : N ≤ 5 := by omega
        clear hB hP h5
        go_enter Tryz.func19, Tryz.ntmps19
        go_wp2_with fail
        (with_reducible refine (basis_sb A c ps w true ha H1.out).mono ?_)
        rintro e wa ⟨rfl, hb1⟩
        go_wp2_with fail
        (with_reducible refine (basis_sb B d qs wa true (hq.next hb1) H2.out).mono ?_)
        rintro e wb ⟨rfl, hb2⟩
        have hb12 := hb1.trans (hb2.mono hb1.size)
        go_wp2_with fail
        (with_reducible refine (l1In_b (N : Int) 0 5 wb true H5.out).mono ?_)
        rintro e w' ⟨rfl, rfl⟩
        have hlit := Own.lit (lo := w.heap.size) wb hb12.size
        have hb0 := hb12.alloc hb12.size (.cells #[] 36)
        clear hb1 hb2 hb12
        go_wp2_with fail
        go_loopw [7, 8] (fun v i wr => ∃ (m : Nat) (A2 : Option Addr) (c2 : Nat) (ks : List Row), m ≤ N + 1 ∧ i = .int .i64 (m : Int) ∧ v = .slice A2 ks.length c2 ∧ Hid (ks.map Row.xs = unS (ps.map Row.xs) (qs.map Row.xs) m) ∧ Own wr w.heap.size wr.heap.size ks [⟨A2, c2, ks.map Row.v⟩] ∧ Below w.heap.size w wr) (fun _ i _ => N + 1 - (intOf i).toNat)
        case atStart => exact ⟨0, _, _, [], Nat.zero_le _, rfl, rfl, Lib.hid rfl, hlit, hb0⟩
        case round =>
          clear hlit hb0
          obtain ⟨m, A2, c2, ks, hm, rfl, rfl, HX, hO, hb⟩ := hrel
          have hkl : ks.length ≤ 37500 := by
            have h1 := congrArg List.length HX.out
            have h2 := unS_le (ps.map Row.xs) (qs.map Row.xs) (m := m) (by omega)
            rw [List.length_map] at h1
            omega
          have hsz := hb.size
          rcases Nat.lt_or_ge m (N + 1) with hlt | hge
          · have d1 : decide ((m : Int) ≤ (N : Int)) = true := decide_eq_true (by omega)
            have HC1 := Lib.hid (classOf_spec A c ps (m : Int) (by omega) wr (ha.next hb))
            have HE1 := Lib.hid (show clG (ps.map Row.xs) (m : Int) = clsL (ps.map Row.xs) m by unfold clG sixB; rw [if_pos ⟨H1.out, decide_eq_true (by omega)⟩]; rfl)
            have HE2 := Lib.hid (show clG (qs.map Row.xs) (m : Int) = clsL (qs.map Row.xs) m by unfold clG sixB; rw [if_pos ⟨H2.out, decide_eq_true (by omega)⟩]; rfl)
            have HTS := Lib.hid (unS_succ (ps.map Row.xs) (qs.map Row.xs) m)
            have hc1 := clsL_le (X := ps.map Row.xs) (n := m) (by omega)
            have hc2 := clsL_le (X := qs.map Row.xs) (n := m) (by omega)
            go_wp2_with fail
            (with_reducible refine HC1.out.mono ?_)
            rintro e w3 ⟨A3, c3, xs, rfl, hX3, hO3, hb3⟩
            have hxl : xs.length ≤ 46656 := by have h1 := congrArg List.length hX3; rw [HE1.out, List.length_map] at h1; omega
            have ho3 := own_below (hO.outN (n := ks.length) (by simp)) hb3
            have hx3 := read_rows hO3.read
            have hs3 := hb3.size
            go_wp2_with (at_builtin; refine wpList_append_rd _ rfl _ _ 24 rfl (w.heap.size) 36 j0 (.slice none 0 0) 24 Tryz.underlying24 hj hy0 hy1 hy2 rfl _ _ _ rfl ho3 _ _ _ _ (xs) rfl rfl hx3 (fun _ => rfl) (by unfold maxLen; omega) (by omega) (by first | omega | (simp; done) | (simp; omega)) ?_; intro v1 w1 hown1 hgrow1)
            obtain ⟨A5, c5, rfl, hO5⟩ := own_join hsz hO hO3 hb3 rfl hown1 hgrow1
            have hb5 := (hb.trans (hb3.mono hsz)).grown hgrow1 (by omega) (fun g hg => (hO.olim (n := ks.length) (by simp) g hg).1)
            obtain ⟨w5, rfl⟩ : ∃ w5 : World, w5 = w1 := ⟨_, rfl⟩
            have HX5 := Lib.hid (show (ks ++ xs).map Row.xs = unS (ps.map Row.xs) (qs.map Row.xs) m ++ clsL (ps.map Row.xs) m by rw [List.map_append, HX.out, hX3, HE1.out])
            have hsz5 := hb5.size
            obtain ⟨ls, hls⟩ : ∃ ls, ls = ks ++ xs := ⟨_, rfl⟩
            have hll : ks.length + xs.length = ls.length := by rw [hls, List.length_append]
            rw [← hls] at HX5 hO5
            have hlb : ls.length ≤ 84156 := by omega
            have HC2 := Lib.hid (classOf_spec B d qs (m : Int) (by omega) w5 (hq.next hb5))
            clear hown1 hgrow1 ho3 hx3 hO hO3 hb3 hX3 hb hsz hls hs3
            rw [hll]
            clear hll
            go_wp2_with fail
            (with_reducible refine HC2.out.mono ?_)
            rintro e w6 ⟨A6, c6, ys, rfl, hX6, hO6, hb6⟩
            have hyl : ys.length ≤ 46656 := by have h1 := congrArg List.length hX6; rw [HE2.out, List.length_map] at h1; omega
            have ho6 := own_below (hO5.outN (n := ls.length) (by simp)) hb6
            have hx6 := read_rows hO6.read
            have hs6 := hb6.size
            go_wp2_with (at_builtin; refine wpList_append_rd _ rfl _ _ 24 rfl (w.heap.size) 36 j0 (.slice none 0 0) 24 Tryz.underlying24 hj hy0 hy1 hy2 rfl _ _ _ rfl ho6 _ _ _ _ (ys) rfl rfl hx6 (fun _ => rfl) (by unfold maxLen; omega) (by omega) (by first | omega | (simp; done) | (simp; omega)) ?_; intro v1 w1 hown1 hgrow1)
            obtain ⟨A7, c7, rfl, hO7⟩ := own_join hsz5 hO5 hO6 hb6 rfl hown1 hgrow1
            have hb7 := (hb5.trans (hb6.mono hsz5)).grown hgrow1 (by omega) (fun g hg => (hO5.olim (n := ls.length) (by simp) g hg).1)
            have HX7 := Lib.hid (show (ls ++ ys).map Row.xs = unS (ps.map Row.xs) (qs.map Row.xs) (m + 1) by rw [List.map_append, HX5.out, hX6, HE2.out, HTS.out, List.append_assoc])
            have K := Lib.hid (And.intro hO7 hb7)
            clear hown1 hgrow1 ho6 hx6 hO5 hO6 hb6 hX6 hb5 hO7 hb7 hs6
            go_wp2_with fail
            go_roundw
            case rel => exact ⟨m + 1, A7, c7, ls ++ ys, by omega, by go_num, by rw [List.length_append], HX7, K.out.1, K.out.2⟩
            case measure => simp [intOf]; omega
          · obtain rfl : m = N + 1 := by omega
            have d1 : decide (((N + 1 : Nat) : Int) ≤ (N : Int)) = false := decide_eq_false (by omega)
            have d2 : decide ((N : Int) + 1 ≤ (N : Int)) = false := decide_eq_false (by omega)
            have hin : InL wr A2 c2 ks := hO.read.toL (unS_in (by omega) HX.out) (Nat.le_refl _)
            have HC := Lib.hid (basisUpTo_spec A2 c2 ks (N : Int) hnn wr hin)
            have HE := Lib.hid (show bupG (ks.map Row.xs) (N : Int) = unG (ps.map Row.xs) (qs.map Row.xs) (N : Int) by
              rw [HG.out]
              unfold bupG
              rw [HX.out, if_pos ⟨allPerm_ofU fun q hq => (unI_perm (m := N + 1) (by omega) ((un_mem _ _ _ q).2 hq)).1, decide_eq_true (by omega)⟩]
              exact bupL_congr (fun p => (un_mem _ _ _ p).symm) _)
            clear hin
            go_wp2_with fail
            (with_reducible refine HC.out.mono ?_)
            rintro e w3 ⟨A3, c3, ds, rfl, hX3, hO3, hb3⟩
            go_wp2_with fail
            go_ret
            exact ⟨A3, c3, ds, rfl, by rw [hX3, HE.out], hO3.wider hsz (Nat.le_refl _), hb.trans (hb3.mono hsz)⟩
      · have hf : decide (0 ≤ n ∧ n ≤ 5) = false := decide_eq_false h5
        have H5 := Lib.hid hf
        have HG := Lib.hid (show unG (ps.map Row.xs) (qs.map Row.xs) n = [] by unfold unG unOk; rw [hf, Bool.and_false]; rfl)
        clear hB hP h5 hf
        go_enter Tryz.func19, Tryz.ntmps19
        go_wp2_with fail
        (with_reducible refine (basis_sb A c ps w true ha H1.out).mono ?_)
        rintro e wa ⟨rfl, hb1⟩
        go_wp2_with fail
        (with_reducible refine (basis_sb B d qs wa true (hq.next hb1) H2.out).mono ?_)
        rintro e wb ⟨rfl, hb2⟩
        have hb12 := hb1.trans (hb2.mono hb1.size)
        go_wp2_with fail
        (with_reducible refine (l1In_b n 0 5 wb false H5.out).mono ?_)
        rintro e w' ⟨rfl, rfl⟩
        have hlit := Own.lit (lo := w.heap.size) wb hb12.size
        have hb0 := hb12.alloc hb12.size (.cells #[] 36)
        go_wp2_with fail
        go_ret
        rw [HG.out]
        exact ⟨_, _, [], rfl, rfl, hlit, hb0⟩
    · have hPf : basisB (qs.map Row.xs) = false := by simpa using hP
      have H2 := Lib.hid hPf
      have HG := Lib.hid (show unG (ps.map Row.xs) (qs.map Row.xs) n = [] by unfold unG unOk; rw [hPf, Bool.and_false, Bool.false_and]; rfl)
      clear hB hP hPf
      go_enter Tryz.func19, Tryz.ntmps19
      go_wp2_with fail
      (with_reducible refine (basis_sb A c ps w true ha H1.out).mono ?_)
      rintro e wa ⟨rfl, hb1⟩
      go_wp2_with fail
      (with_reducible refine (basis_sb B d qs wa false (hq.next hb1) H2.out).mono ?_)
      rintro e wb ⟨rfl, hb2⟩
      have hb12 := hb1.trans (hb2.mono hb1.size)
      have hlit := Own.lit (lo := w.heap.size) wb hb12.size
      have hb0 := hb12.alloc hb12.size (.cells #[] 36)
      go_wp2_with fail
      go_ret
      rw [HG.out]
      exact ⟨_, _, [], rfl, rfl, hlit, hb0⟩
  · have hBf : basisB (ps.map Row.xs) = false := by simpa using hB
    have H1 := Lib.hid hBf
    have HG := Lib.hid (show unG (ps.map Row.xs) (qs.map Row.xs) n = [] by unfold unG unOk; rw [hBf, Bool.false_and, Bool.false_and]; rfl)
    clear hB hBf
    go_enter Tryz.func19, Tryz.ntmps19
    go_wp2_with fail
    (with_reducible refine (basis_sb A c ps w false ha H1.out).mono ?_)
    rintro e wa ⟨rfl, hb1⟩
    have hlit := Own.lit (lo := w.heap.size) wa hb1.size
    have hb0 := hb1.alloc hb1.size (.cells #[] 36)
    go_wp2_with fail
    go_ret
    rw [HG.out]
    exact ⟨_, _, [], rfl, rfl, hlit, hb0⟩
set_option maxHeartbeats 8000000 in
theorem unionUpTo_impl (A : Option Addr) (c : Nat) (ps : List Row) (B : Option Addr) (d : Nat) (qs : List Row) (n : Int) (hnn : -9223372036854775808 ≤ n ∧ n ≤ 9223372036854775807) (w : World) (ha : InL w A c ps) (hq : InL w B d qs) :
    Calls Tryz.prog 9 #[.slice A ps.length c, .slice B qs.length d, .int .i64 n] w (RetL w (unG (ps.map Row.xs) (qs.map Row.xs) n)) := by
  obtain ⟨j0, hj, hy0, hy1, hy2⟩ := info_parts infoL
  by_cases hB : basisB (ps.map Row.xs) = true
  · have H1 := Lib.hid hB
    have hp8 := rows_8 (basis_perm hB)
    by_cases hP : basisB (qs.map Row.xs) = true
    · have H2 := Lib.hid hP
      have hq8 := rows_8 (basis_perm hP)
      by_cases h5 : 0 ≤ n ∧ n ≤ 5
      · have HG := Lib.hid (show unG (ps.map Row.xs) (qs.map Row.xs) n = bupL (unI (ps.map Row.xs) (qs.map Row.xs) (n.toNat + 1)) n.toNat by unfold unG unOk; rw [hB, hP, decide_eq_true h5]; rfl)
        obtain ⟨N, rfl⟩ := Int.eq_ofNat_of_zero_le h5.1
        have hN : N ≤ 5 := by omega
        have d3 : decide ((N : Int) < 0) = false := decide_eq_false (by omega)
        have d4 : decide ((N : Int) > 5) = false := decide_eq_false (by omega)
        have d4' : decide (5 < (N : Int)) = false := decide_eq_false (by omega)
        have e1 : IntKind.i64.wrap ((N : Int) + 1) = (N : Int) + 1 := IntWalk.i64_in _ (by omega)
        clear hB hP h5
        go_enter Tryz.func9, Tryz.ntmps9
        go_wp2_with fail
        (with_reducible refine (basis_ib A c ps w true ha H1.out).mono ?_)
        rintro e wa ⟨rfl, hb1⟩
        go_wp2_with fail
        (with_reducible refine (basis_ib B d qs wa true (hq.next hb1) H2.out).mono ?_)
        rintro e wb ⟨rfl, hb2⟩
        have hb12 := hb1.trans (hb2.mono hb1.size)
        have hlit := Own.lit (lo := w.heap.size) wb hb12.size
        have hb0 := hb12.alloc hb12.size (.cells #[] 36)
        clear hb1 hb2 hb12
        go_wp2_with fail
        go_loopw [7, 30] (fun v i wr => ∃ (m : Nat) (A2 : Option Addr) (c2 : Nat) (kept : List Row), m ≤ N + 1 ∧ i = .int .i64 (m : Int) ∧ v = .slice A2 kept.length c2 ∧ Hid (kept.map Row.xs = unI (ps.map Row.xs) (qs.map Row.xs) m) ∧ Own wr w.heap.size wr.heap.size kept [⟨A2, c2, kept.map Row.v⟩] ∧ Below w.heap.size w wr) (fun _ i _ => N + 1 - (intOf i).toNat)
        case atStart => exact ⟨0, _, _, [], Nat.zero_le _, rfl, rfl, Lib.hid rfl, hlit, hb0⟩
        case round =>
          clear hlit hb0
          obtain ⟨m, A2, c2, kept, hm, rfl, rfl, HX, hO, hb⟩ := hrel
          have hkl : kept.length ≤ 18750 := by
            have h1 := congrArg List.length HX.out
            have h2 := unI_le (ps.map Row.xs) (qs.map Row.xs) (m := m) (by omega)
            rw [List.length_map] at h1
            omega
          have hsz := hb.size
          rcases Nat.lt_or_ge m (N + 1) with hlt | hge
          · have d1 : decide ((m : Int) < (N : Int) + 1) = true := decide_eq_true (by omega)
            obtain ⟨wo, rfl⟩ : ∃ wo : World, wo = wr := ⟨_, rfl⟩
            have HPC := Lib.hid (perms_impl m wo (by omega))
            go_wp2_with fail
            (with_reducible refine HPC.out.mono ?_)
            rintro e w2 ⟨A1, c1, rs, rfl, hX, hOr, hb2⟩
            have hbw2 := hb.trans (hb2.mono hsz)
            have hs2 := hb2.size
            have hlen : rs.length ≤ 46656 := by have h1 := permsL_le5 (m := m) (by omega); rw [← hX, List.length_map] at h1; omega
            have HXR := Lib.hid hX
            have HPL := Lib.hid (show ∀ r ∈ kept, ∀ g, r.v.ownBlock = some g → g < wo.heap.size from hO.lt)
            have hO2 := (hO.below hb2).wider (Nat.le_refl _) hs2
            have hS2 : Sift w2 w.heap.size wo.heap.size w2.heap.size rs ⟨A1, c1, rs.map Row.v⟩ A2 c2 (kept.map Row.v) :=
              ⟨hOr, own_below hO.out hb2, fun g hg => .inl (hO.out.lt g hg).2⟩
            clear hX hOr hb2 hO hb
            go_wp2_with fail
            go_loopw [7, 36] (fun v i wr => ∃ (j : Nat) (A2 : Option Addr) (c2 : Nat) (vs : List Value), j ≤ rs.length ∧ i = .int .i64 j ∧ v = .slice A2 vs.length c2 ∧ Hid (vs = (kept ++ keptR (unH (ps.map Row.xs) (qs.map Row.xs)) rs j).map Row.v) ∧
              Own wr w.heap.size wr.heap.size kept [⟨A2, c2, vs⟩] ∧ Sift wr w.heap.size wo.heap.size w2.heap.size rs ⟨A1, c1, rs.map Row.v⟩ A2 c2 vs ∧ Below w.heap.size w wr ∧ w2.heap.size ≤ wr.heap.size) (fun _ i _ => rs.length - (intOf i).toNat)
            case atStart => exact ⟨0, A2, c2, kept.map Row.v, Nat.zero_le _, rfl, by rw [List.length_map], Lib.hid (by simp [keptR]), hO2, hS2, hbw2, Nat.le_refl _⟩
            case round =>
              clear hO2 hS2 hbw2
              obtain ⟨j, A2, c2, vs, hjl, rfl, rfl, HV, hO, hS, hb, hsw⟩ := hrel
              have hvl : vs.length ≤ 100000 := by
                have h1 := keptR_le (unH (ps.map Row.xs) (qs.map Row.xs)) rs j
                have h2 := congrArg List.length HV.out
                rw [List.length_map, List.length_append] at h2
                omega
              rcases Nat.lt_or_ge j rs.length with hltj | hgej
              · obtain ⟨p, hp⟩ : ∃ p : Row, p = rs[j] := ⟨_, rfl⟩
                have hpm : p ∈ rs := by rw [hp]; exact List.getElem_mem hltj
                have hRd := hS.rows.read
                obtain ⟨bk, off, rfl, hbk, hc⟩ := hRd.at (by omega)
                have cc : wr.cell? ⟨bk, off + j, none⟩ = some (Value.slice p.A p.xs.length p.c) := by rw [hp]; exact hc j hltj
                have hpx := permsL_perm (n := m) (by omega) (map_memX HXR.out hpm)
                have hl8 : p.xs.length ≤ 8 := by have := hpx.2; omega
                have hin := row_in hRd hpm (by omega) hsw
                have HK := Lib.hid (show keptR (unH (ps.map Row.xs) (qs.map Row.xs)) rs (j + 1) = if unH (ps.map Row.xs) (qs.map Row.xs) p.xs = true then keptR (unH (ps.map Row.xs) (qs.map Row.xs)) rs j ++ [p] else keptR (unH (ps.map Row.xs) (qs.map Row.xs)) rs j by rw [keptR_succ _ rs j hltj, ← hp])
                clear hc hp hRd hpx hpm
                obtain ⟨v1, hv1⟩ : ∃ v1, avoidB (ps.map Row.xs) p.xs = v1 := ⟨_, rfl⟩
                obtain ⟨v2, hv2⟩ : ∃ v2, avoidB (qs.map Row.xs) p.xs = v2 := ⟨_, rfl⟩
                have HU := Lib.hid (show unH (ps.map Row.xs) (qs.map Row.xs) p.xs = (v1 || v2) by unfold unH; rw [hv1, hv2])
                have HA1 := Lib.hid hv1
                have HA2 := Lib.hid hv2
                clear hv1 hv2
                go_wp2_with fail
                (with_reducible refine (avoids_b A p.A c p.c ps p.xs wr v1 (ha.next hb) hin hl8 hp8 HA1.out).mono ?_)
                rintro e w3 ⟨rfl, hb3⟩
                have hbw3 := hb.trans (hb3.mono hb.size)
                have hO3 := (hO.below hb3).wider (Nat.le_refl _) hb3.size
                have hS3 := hS.below hb3
                have hsw3 : w2.heap.size ≤ w3.heap.size := by have := hb3.size; omega
                have hin3 := hin.next hb3
                clear hb hb3 hO hS hsw hin cc
                cases v1 with
                | true =>
                  have HT2 := Lib.hid (show keptR (unH (ps.map Row.xs) (qs.map Row.xs)) rs (j + 1) = keptR (unH (ps.map Row.xs) (qs.map Row.xs)) rs j ++ [p] by rw [HK.out, HU.out]; rfl)
                  have ho2 := hS3.outN (n := vs.length) rfl
                  have hol := hS3.olim (n := vs.length) rfl
                  have hwz5 : w.heap.size ≤ w3.heap.size := hbw3.size
                  go_wp2_with (at_builtin; refine wpList_append_own_at _ rfl _ _ 24 rfl (w.heap.size) 36 j0 (.slice none 0 0) 1 24 Tryz.underlying24 hj hy0 hy1 hy2 rfl (by decide) _ _ _ rfl (World.ownsRow.alloc ho2 _) ⟨w3.heap.size, 0, none⟩ 1 1 [Value.slice p.A p.xs.length p.c] rfl rfl (cell_one_at _ _ (by simp)) (by intro u hu; simp at hu; subst hu; rfl) (by unfold maxLen; omega) (by omega) (by simp; omega) ?_; intro v9 w9 hown9 hgrow9 _ hat9)
                  obtain ⟨A5, c5, hv5, hS6, hg6⟩ := hS3.grow hsw3 rfl hown9 hgrow9 hat9
                  obtain ⟨A7, c7, hv7, hO6, _⟩ := hO3.grow (Nat.le_refl _) rfl hown9 hgrow9
                  have hE := hv5.symm.trans hv7
                  injection hE with hE1 _ hE2
                  subst hE1 hE2
                  subst hv5
                  have hb6 := hbw3.grown hg6 hwz5 hol
                  have hsz6 : w2.heap.size ≤ w9.heap.size := by have := hg6.size; omega
                  have K := Lib.hid (And.intro hS6 (And.intro hO6 hb6))
                  clear hS6 hO6 hb6 hown9 hgrow9 hat9 hg6 hS3 hO3 ho2 hol hbw3 hv7 hin3
                  go_wp2_with fail
                  go_roundw
                  case rel => exact ⟨j + 1, A5, c5, vs ++ [Value.slice p.A p.xs.length p.c], by omega, by go_num, by rw [List.length_append]; rfl, Lib.hid (by rw [HT2.out, HV.out]; simp [Row.v]), K.out.2.1, K.out.1, K.out.2.2, hsz6⟩
                  case measure => simp [intOf]; omega
                | false =>
                  go_wp2_with fail
                  (with_reducible refine (avoids_b B p.A d p.c qs p.xs w3 v2 (hq.next hbw3) hin3 hl8 hq8 HA2.out).mono ?_)
                  rintro e w4 ⟨rfl, hb4⟩
                  have hbw4 := hbw3.trans (hb4.mono hbw3.size)
                  have hO4 := (hO3.below hb4).wider (Nat.le_refl _) hb4.size
                  have hS4 := hS3.below hb4
                  have hsw4 : w2.heap.size ≤ w4.heap.size := by have := hb4.size; omega
                  clear hb4 hO3 hS3 hsw3 hin3 hbw3
                  cases v2 with
                  | true =>
                    have HT2 := Lib.hid (show keptR (unH (ps.map Row.xs) (qs.map Row.xs)) rs (j + 1) = keptR (unH (ps.map Row.xs) (qs.map Row.xs)) rs j ++ [p] by rw [HK.out, HU.out]; rfl)
                    have ho2 := hS4.outN (n := vs.length) rfl
                    have hol := hS4.olim (n := vs.length) rfl
                    have hwz5 : w.heap.size ≤ w4.heap.size := hbw4.size
                    go_wp2_with (at_builtin; refine wpList_append_own_at _ rfl _ _ 24 rfl (w.heap.size) 36 j0 (.slice none 0 0) 1 24 Tryz.underlying24 hj hy0 hy1 hy2 rfl (by decide) _ _ _ rfl (World.ownsRow.alloc ho2 _) ⟨w4.heap.size, 0, none⟩ 1 1 [Value.slice p.A p.xs.length p.c] rfl rfl (cell_one_at _ _ (by simp)) (by intro u hu; simp at hu; subst hu; rfl) (by unfold maxLen; omega) (by omega) (by simp; omega) ?_; intro v9 w9 hown9 hgrow9 _ hat9)
                    obtain ⟨A5, c5, hv5, hS6, hg6⟩ := hS4.grow hsw4 rfl hown9 hgrow9 hat9
                    obtain ⟨A7, c7, hv7, hO6, _⟩ := hO4.grow (Nat.le_refl _) rfl hown9 hgrow9
                    have hE := hv5.symm.trans hv7
                    injection hE with hE1 _ hE2
                    subst hE1 hE2
                    subst hv5
                    have hb6 := hbw4.grown hg6 hwz5 hol
                    have hsz6 : w2.heap.size ≤ w9.heap.size := by have := hg6.size; omega
                    have K := Lib.hid (And.intro hS6 (And.intro hO6 hb6))
                    clear hS6 hO6 hb6 hown9 hgrow9 hat9 hg6 hS4 hO4 ho2 hol hbw4 hv7
                    go_wp2_with fail
                    go_roundw
                    case rel => exact ⟨j + 1, A5, c5, vs ++ [Value.slice p.A p.xs.length p.c], by omega, by go_num, by rw [List.length_append]; rfl, Lib.hid (by rw [HT2.out, HV.out]; simp [Row.v]), K.out.2.1, K.out.1, K.out.2.2, hsz6⟩
                    case measure => simp [intOf]; omega
                  | false =>
                    have HT2 := Lib.hid (show keptR (unH (ps.map Row.xs) (qs.map Row.xs)) rs (j + 1) = keptR (unH (ps.map Row.xs) (qs.map Row.xs)) rs j by rw [HK.out, HU.out]; rfl)
                    go_wp2_with fail
                    go_roundw
                    case rel => exact ⟨j + 1, A2, c2, vs, by omega, by go_num, rfl, Lib.hid (by rw [HT2.out, HV.out]), hO4, hS4, hbw4, hsw4⟩
                    case measure => simp [intOf]; omega
              · obtain rfl : j = rs.length := by omega
                have hfin := sift_end (kept := keptR (unH (ps.map Row.xs) (qs.map Row.xs)) rs rs.length) hO HPL.out hS (keptR_sub _ _) HV.out hsz hs2 hsw
                have HLE := Lib.hid (show vs.length = (kept ++ keptR (unH (ps.map Row.xs) (qs.map Row.xs)) rs rs.length).length by rw [HV.out, List.length_map])
                have HXN := Lib.hid (show (kept ++ keptR (unH (ps.map Row.xs) (qs.map Row.xs)) rs rs.length).map Row.xs = unI (ps.map Row.xs) (qs.map Row.xs) (m + 1) by rw [List.map_append, keptR_all, HX.out, HXR.out, unI_succ])
                have K := Lib.hid hfin
                clear hfin hO hS
                go_wp2_with fail
                go_roundw
                case rel => exact ⟨m + 1, A2, c2, kept ++ keptR (unH (ps.map Row.xs) (qs.map Row.xs)) rs rs.length, by omega, by go_num, by rw [← HLE.out], HXN, K.out, hb⟩
                case measure => simp [intOf]; omega
          · obtain rfl : m = N + 1 := by omega
            have hin : InL wr A2 c2 kept := hO.read.toL (unI_in (by omega) HX.out) (Nat.le_refl _)
            have HC := Lib.hid (basisUpToI A2 c2 kept N wr hin (fun r hr => (unI_perm (m := N + 1) (by omega) (map_memX HX.out hr)).1) (by omega))
            have HE := Lib.hid (show bupL (kept.map Row.xs) N = unG (ps.map Row.xs) (qs.map Row.xs) (N : Int) by rw [HG.out, HX.out]; rfl)
            have d1 : decide (((N + 1 : Nat) : Int) < (N : Int) + 1) = false := decide_eq_false (by omega)
            clear hin
            go_wp2_with fail
            (with_reducible refine HC.out.mono ?_)
            rintro e w3 ⟨A3, c3, ds, rfl, hX3, hO3, hb3⟩
            go_wp2_with fail
            go_ret
            exact ⟨A3, c3, ds, rfl, by rw [hX3, HE.out], hO3.wider hsz (Nat.le_refl _), hb.trans (hb3.mono hsz)⟩
      · have HG := Lib.hid (show unG (ps.map Row.xs) (qs.map Row.xs) n = [] by unfold unG unOk; rw [decide_eq_false h5, Bool.and_false]; rfl)
        go_enter Tryz.func9, Tryz.ntmps9
        go_wp2_with fail
        (with_reducible refine (basis_ib A c ps w true ha H1.out).mono ?_)
        rintro e wa ⟨rfl, hb1⟩
        go_wp2_with fail
        (with_reducible refine (basis_ib B d qs wa true (hq.next hb1) H2.out).mono ?_)
        rintro e wb ⟨rfl, hb2⟩
        have hb12 := hb1.trans (hb2.mono hb1.size)
        clear hB hP
        by_cases h0 : n < 0
        · have d1 : decide (n < 0) = true := decide_eq_true h0
          clear h5 h0
          go_wp2_with fail
          go_ret
          rw [HG.out]
          exact ⟨none, 0, [], rfl, rfl, Own.nil_list _ _ _, hb12⟩
        · have d1 : decide (n < 0) = false := decide_eq_false h0
          have d2 : decide (n > 5) = true := decide_eq_true (by omega)
          have d2' : decide (5 < n) = true := decide_eq_true (by omega)
          clear h5 h0
          go_wp2_with fail
          go_ret
          rw [HG.out]
          exact ⟨none, 0, [], rfl, rfl, Own.nil_list _ _ _, hb12⟩
    · have hPf : basisB (qs.map Row.xs) = false := by simpa using hP
      have H2 := Lib.hid hPf
      have HG := Lib.hid (show unG (ps.map Row.xs) (qs.map Row.xs) n = [] by unfold unG unOk; rw [hPf, Bool.and_false, Bool.false_and]; rfl)
      clear hB hP hPf
      go_enter Tryz.func9, Tryz.ntmps9
      go_wp2_with fail
      (with_reducible refine (basis_ib A c ps w true ha H1.out).mono ?_)
      rintro e wa ⟨rfl, hb1⟩
      go_wp2_with fail
      (with_reducible refine (basis_ib B d qs wa false (hq.next hb1) H2.out).mono ?_)
      rintro e wb ⟨rfl, hb2⟩
      go_wp2_with fail
      go_ret
      rw [HG.out]
      exact ⟨none, 0, [], rfl, rfl, Own.nil_list _ _ _, hb1.trans (hb2.mono hb1.size)⟩
  · have hBf : basisB (ps.map Row.xs) = false := by simpa using hB
    have H1 := Lib.hid hBf
    have HG := Lib.hid (show unG (ps.map Row.xs) (qs.map Row.xs) n = [] by unfold unG unOk; rw [hBf, Bool.false_and, Bool.false_and]; rfl)
    clear hB hBf
    go_enter Tryz.func9, Tryz.ntmps9
    go_wp2_with fail
    (with_reducible refine (basis_ib A c ps w false ha H1.out).mono ?_)
    rintro e wa ⟨rfl, hb1⟩
    go_wp2_with fail
    go_ret
    rw [HG.out]
    exact ⟨none, 0, [], rfl, rfl, Own.nil_list _ _ _, hb1⟩
end Go.Proofs.YtodloeonlaljpaaGreat

/- Plain maths of FnClasses: the basis of a class is found again among the least lists outside it. -/
namespace Go.Proofs.YtodloeonlaljpaaGreat
set_option maxRecDepth 100000

theorem cmpL_snoc_lt {p q : List Int} (hl : p.length = q.length) (h : cmpL p q < 0) (u v : Int) : cmpL (p ++ [u]) (q ++ [v]) < 0 := by
  induction p generalizing q with
  | nil => cases q with
    | nil => simp [cmpL] at h
    | cons b s => simp at hl
  | cons a t ih => cases q with
    | nil => simp at hl
    | cons b s =>
      rw [List.cons_append, List.cons_append]
      simp only [cmpL] at h ⊢
      split
      · omega
      · rename_i h1
        rw [if_neg h1] at h
        split
        · rename_i h2; rw [if_pos h2] at h; omega
        · rename_i h2; rw [if_neg h2] at h; exact ih (by simpa using hl) h
theorem cmpL_snoc_same (p : List Int) {u v : Int} (h : u < v) : cmpL (p ++ [u]) (p ++ [v]) < 0 := by
  induction p with
  | nil => simp [cmpL, h]
  | cons a t ih =>
    rw [List.cons_append, List.cons_append]
    simp only [cmpL, Int.lt_irrefl, if_false]
    exact ih
theorem nums_inc (n : Nat) : (nums n).Pairwise (· < ·) := by
  unfold nums
  rw [List.pairwise_map]
  exact List.pairwise_lt_range.imp fun {a b} h => by omega
theorem before_len {x y : List Int} (hl : x.length = y.length) (h : cmpL x y < 0) : before x y = true := by
  unfold before
  rw [if_pos hl]
  exact decide_eq_true h
theorem permsI_lex (n : Nat) : ∀ i, (permsI n i).Pairwise fun x y => cmpL x y < 0 := by
  intro i
  induction i with
  | zero => simp [permsI]
  | succ i ih =>
    show (ext n (permsI n i)).Pairwise _
    unfold ext
    have hlen : ∀ p ∈ permsI n i, p.length = i := fun p hp => (permsI_mem hp).1
    generalize permsI n i = L at ih hlen
    induction L with
    | nil => simp
    | cons a t iht =>
      rw [List.flatMap_cons, List.pairwise_append]
      rw [List.pairwise_cons] at ih
      refine ⟨?_, iht ih.2 fun p hp => hlen p (by simp [hp]), fun x hx y hy => ?_⟩
      · unfold ext1
        rw [List.pairwise_map]
        exact ((nums_inc n).sublist List.filter_sublist).imp fun {u v} h => cmpL_snoc_same a h
      · obtain ⟨u, _, rfl⟩ := List.mem_map.1 hx
        obtain ⟨q, hq, hy⟩ := List.mem_flatMap.1 hy
        obtain ⟨v, _, rfl⟩ := List.mem_map.1 hy
        exact cmpL_snoc_lt (by rw [hlen a (by simp), hlen q (by simp [hq])]) (ih.1 q hq) u v
theorem permsL_srt (n : Nat) : Srt (permsL n) := by
  unfold Srt
  have h := permsI_lex n n
  have hlen : ∀ p ∈ permsI n n, p.length = n := fun p hp => (permsI_mem hp).1
  unfold permsL
  refine h.imp_of_mem fun {a b} ha hb hab => before_len (by rw [hlen a ha, hlen b hb]) hab
theorem bupL_srt (L : List (List Int)) (n : Nat) : Srt (bupL L n) := by
  induction n with
  | zero => unfold Srt bupL; simp
  | succ n ih =>
    rw [bupL_succ]
    unfold Srt
    rw [List.pairwise_append]
    refine ⟨ih, (permsL_srt (n + 1)).sublist List.filter_sublist, fun a ha b hb => ?_⟩
    have h1 := bupL_mem ha
    have h2 := (permsI_mem (List.mem_filter.1 hb).1).1
    unfold before
    rw [if_neg (by omega)]
    exact decide_eq_true (by omega)
/-- All lists of the class up to a length. -/
def clsTo (X : List (List Int)) (m : Nat) : List (List Int) := (List.range m).flatMap fun k => clsL X k
theorem clsTo_succ (X : List (List Int)) (m : Nat) : clsTo X (m + 1) = clsTo X m ++ clsL X m := by simp [clsTo, List.range_succ]
theorem clsTo_mem {X : List (List Int)} {m : Nat} (hm : m ≤ 8) {p : List Int} : p ∈ clsTo X (m + 1) ↔ p.length ≤ m ∧ permB p = true ∧ avoidB X p = true := by
  unfold clsTo
  rw [List.mem_flatMap]
  constructor
  · rintro ⟨k, hk, hp⟩
    have hk := List.mem_range.1 hk
    obtain ⟨h1, h2⟩ := List.mem_filter.1 hp
    obtain ⟨h3, h4⟩ := permsL_perm (by omega) h1
    exact ⟨by omega, h3, h2⟩
  · rintro ⟨h1, h2, h3⟩
    exact ⟨p.length, List.mem_range.2 (by omega), List.mem_filter.2 ⟨permB_mem h2, h3⟩⟩
def shortL (X : List (List Int)) (n : Nat) : List (List Int) := X.filter fun q => decide (q.length ≤ n)
/-- The basis is found again. -/
theorem basis_again {X : List (List Int)} (hX : basisB X = true) {n : Nat} (hn : n ≤ 6) : bupL (clsTo X (n + 1)) n = shortL X n := by
  have hperm : ∀ q ∈ X, permB q = true := basis_perm hX
  refine srt_ext (bupL_srt _ _) ((basis_srt hX).sublist List.filter_sublist) fun p => ?_
  have hnot : ∀ t : List Int, t.length ≤ n → permB t = true → (t ∈ clsTo X (n + 1) ↔ avoidB X t = true) := fun t h1 h2 => by
    rw [clsTo_mem (by omega)]
    exact ⟨fun h => h.2.2, fun h => ⟨h1, h2, h⟩⟩
  unfold bupL shortL
  rw [List.mem_flatMap, List.mem_filter]
  constructor
  · rintro ⟨k, hk, hp⟩
    have hk := List.mem_range.1 hk
    obtain ⟨h1, h2⟩ := List.mem_filter.1 hp
    obtain ⟨h3, h4⟩ := permsL_perm (by omega) h1
    unfold bupK at h2
    rw [Bool.and_eq_true] at h2
    have ha : avoidB X p = false := by
      cases h : avoidB X p with
      | false => rfl
      | true => have := (hnot p (by omega) h3).2 h; simp [this] at h2
    obtain ⟨b, hb, hh⟩ := not_avoid.1 ha
    have hle := has_len h3 (hperm b hb) hh
    have hlen : b.length = p.length := by
      apply Classical.byContradiction
      intro hne
      obtain ⟨t, ht, hth⟩ := has_lower h3 (hperm b hb) (by omega) hh
      obtain ⟨ht1, ht2, ht3⟩ := low_mem h3 ht
      have hl := List.all_eq_true.1 h2.2 t ht
      unfold bupP at hl
      have hb0 : b.length ≠ 0 := by
        obtain ⟨i, hi, e⟩ := List.mem_iff_getElem.1 hb
        rw [← e]
        exact (basis_at hX i hi).2.1
      have hle2 := has_len ht1 (hperm b hb) hth
      rw [Bool.or_eq_true, decide_eq_true_eq, decide_eq_true_eq] at hl
      rcases hl with hl | hl
      · omega
      · have := (hnot t (by omega) ht1).1 hl
        rw [avoid_iff] at this
        rw [this b hb] at hth
        cases hth
    rw [has_same h3 (hperm b hb) hlen.symm hh]
    exact ⟨hb, decide_eq_true (by omega)⟩
  · rintro ⟨hpX, hl⟩
    have hl := of_decide_eq_true hl
    have hp := hperm p hpX
    have hp0 : p.length ≠ 0 := by
      obtain ⟨i, hi, e⟩ := List.mem_iff_getElem.1 hpX
      rw [← e]
      exact (basis_at hX i hi).2.1
    refine ⟨p.length - 1, List.mem_range.2 (by omega), List.mem_filter.2 ⟨?_, ?_⟩⟩
    · rw [show p.length - 1 + 1 = p.length by omega]
      exact permB_mem hp
    · unfold bupK
      rw [Bool.and_eq_true]
      constructor
      · have : p ∉ clsTo X (n + 1) := fun h => by
          have := (hnot p hl hp).1 h
          rw [avoid_iff] at this
          have h2 := this p hpX
          rw [has_self hp] at h2
          cases h2
        simp [this]
      · rw [List.all_eq_true]
        intro t ht
        obtain ⟨ht1, ht2, ht3⟩ := low_mem hp ht
        unfold bupP
        rw [Bool.or_eq_true, decide_eq_true_eq, decide_eq_true_eq]
        right
        refine (hnot t (by omega) ht1).2 (avoid_iff.2 fun b hb => ?_)
        cases hc : hasB t b with
        | false => rfl
        | true =>
          have h1 := has_trans hp ht1 (hperm b hb) ht2 hc
          have h2 := basis_anti hX hpX hb h1
          have h3 := has_len ht1 (hperm b hb) hc
          rw [← h2] at h3
          omega
theorem clsTo_perm {X : List (List Int)} {m : Nat} (hm : m ≤ 8) : allPermB (clsTo X (m + 1)) = true := allPerm_ofU fun q hq => ((clsTo_mem hm).1 hq).2.1
theorem bup_again {X : List (List Int)} (hX : basisB X = true) {n : Nat} (hn : n ≤ 6) : bupG (clsTo X (n + 1)) (n : Int) = shortL X n := by
  unfold bupG
  rw [if_pos ⟨clsTo_perm (by omega), by unfold sixB; exact decide_eq_true (by omega)⟩]
  exact basis_again hX hn
/-- A class has every lower list of its lists. -/
theorem lower_avoid {X : List (List Int)} (hX : ∀ q ∈ X, permB q = true) {p t : List Int} (hp : permB p = true) (ha : avoidB X p = true) (ht : t ∈ lowL p) : permB t = true ∧ avoidB X t = true := by
  obtain ⟨h1, h2, _⟩ := low_mem hp ht
  exact ⟨h1, avoid_mono hX hp h1 h2 ha⟩
end Go.Proofs.YtodloeonlaljpaaGreat

/- The last draws of FnClasses and FnMeets. -/
namespace Go.Proofs.YtodloeonlaljpaaGreat
set_option maxRecDepth 100000
open Go Go.RowKit

/-- The first row of a list is put anew. -/
theorem Own.put_first {w w1 : World} {lo g cap : Nat} {r0 r : Row} {t : List Row} (h : Own w1 lo w.heap.size (r0 :: t) [⟨some ⟨g, 0, none⟩, cap, (r0 :: t).map Row.v⟩]) (hs : w.heap.size ≤ w1.heap.size) (hl : lo ≤ w.heap.size)
    (hr : w1.ownsRow w.heap.size 3 1 r.v r.xs.length (r.xs.map (Value.int .i64))) :
    Own (w1.setCell ⟨g, 0, none⟩ r.v) lo (w1.setCell ⟨g, 0, none⟩ r.v).heap.size (r :: t) [⟨some ⟨g, 0, none⟩, cap, (r :: t).map Row.v⟩] ∧ w1.grownBy (w1.setCell ⟨g, 0, none⟩ r.v) (some g) := by
  have h1 := h.add (r := r) hr hs hl
  have hg := grown_set w1 g 0 r.v
  have hn : ((r0 :: t).map Row.v).length = (r0 :: t).length := by simp
  have h2 := h1.kept (Nat.le_refl _) hn hg
  have h3 : Own (w1.setCell ⟨g, 0, none⟩ r.v) lo (w1.setCell ⟨g, 0, none⟩ r.v).heap.size (r :: t) [] := by
    have hp : ((r0 :: t) ++ [r]).Perm (r0 :: r :: t) := by
      rw [List.cons_append]
      exact (List.perm_append_singleton r t).cons r0
    exact (h2.perm hp).sub (List.sublist_cons_self _ _)
  have h4 := own_set_at (h.outN hn) (j := 0) (by simp) r.v
  refine ⟨h3.with_ ?_ (Nat.le_refl _), hg⟩
  have e : ((r0 :: t).map Row.v).set 0 r.v = (r :: t).map Row.v := rfl
  rw [e] at h4
  rw [List.length_map]
  exact h4
theorem run_append_rd_at {P : Program} (w : World) {α : Type} {f : α → Value} (base : Nat) (t ty e : TypeId) (i : TypeInfo) (z : Value) (bytes : Nat) (ht : P.underlying t = some (.slice e)) (hi : P.info? e = some i) (hz : i.zero = some z)
    (hsize : i.size = 1) (hby : i.bytes = bytes) (hzs : z.cells.size = 1)
    (v : Value) (n : Nat) (xs : List Value) (hown : w.ownsRow base e 1 v n xs)
    (B : Nat) (A : Option Addr) (c m : Nat) (ys : List α) (hm : ys.length = m) (hr : Rd f w B A ys) (h1 : ∀ y, (f y).oneCell' = true)
    (h63 : n + m ≤ maxLen) (hbytes : (n + m) * bytes ≤ 140737488355328) (hbase : base ≤ w.heap.size) :
    ∃ v' w', (Builtin.append_ #[t, t] ty #[v, .slice A m c]).run P w = .ok v' w' ∧ w'.ownsRow base e 1 v' (n + m) (xs ++ ys.map f) ∧ w.grownBy w' v.ownBlock ∧ (v'.ownBlock = v.ownBlock ∨ v'.ownBlock = some w.heap.size) := by
  subst hm
  rcases Nat.eq_zero_or_pos ys.length with h0 | h0
  · have hy : ys = [] := List.eq_nil_of_length_eq_zero h0
    subst hy
    cases A with
    | none => exact ⟨v, w, run_append_of_nil w base t ty e i ht hi v n xs hown c, by simpa using hown, World.grownBy.refl w _, .inl rfl⟩
    | some ad =>
      obtain ⟨v', w', hrun, h2, h3, _, h5⟩ := run_append_own_at (P := P) w base t ty e i z 1 bytes ht hi hz hsize hby hzs (by omega) v n xs hown ad 0 c [] rfl (by intro j u h; simp at h) (by simp) (by simpa using h63) (by simpa using hbytes) hbase
      exact ⟨v', w', hrun, by simpa using h2, h3, h5⟩
  · obtain ⟨b, off, rfl, _, hc⟩ := hr h0
    obtain ⟨v', w', hrun, h2, h3, _, h5⟩ := run_append_own_at (P := P) w base t ty e i z 1 bytes ht hi hz hsize hby hzs (by omega) v n xs hown ⟨b, off, none⟩ ys.length c (ys.map f) (by simp) (fun j u hu => by
      rw [List.getElem?_map] at hu
      obtain ⟨y, hy, rfl⟩ := Option.map_eq_some_iff.1 hu
      obtain ⟨hj, rfl⟩ := List.getElem?_eq_some_iff.1 hy
      rw [Addr.add_lit]
      exact hc j hj) (by intro u hu; obtain ⟨y, _, rfl⟩ := List.mem_map.1 hu; exact h1 y) h63 hbytes hbase
    exact ⟨v', w', hrun, h2, h3, h5⟩
theorem wpList_append_rd_at {P : Program} {w : World} {α : Type} {f : α → Value} {ops : Array Oper} {rest : List Oper} {o : Oper} {a : Act} {Q : Exit → Act → World → Prop} (hgd : o.guard = none) (s x : Operand) (t : TypeId)
    (ho : o.op = .call { callee := .builtin .append, args := #[s, x], argTypes := #[t, t] })
    (base : Nat) (e : TypeId) (i : TypeInfo) (z : Value) (bytes : Nat) (ht : P.underlying t = some (.slice e)) (hi : P.info? e = some i) (hz : i.zero = some z)
    (hsize : i.size = 1) (hby : i.bytes = bytes) (hzs : z.cells.size = 1)
    (v : Value) (n : Nat) (xs : List Value) (hs : a.eval s = v) (hown : w.ownsRow base e 1 v n xs)
    (B : Nat) (A : Option Addr) (c m : Nat) (ys : List α) (hx : a.eval x = .slice A m c) (hm : ys.length = m) (hr : Rd f w B A ys) (h1 : ∀ y, (f y).oneCell' = true)
    (h63 : n + m ≤ maxLen) (hbytes : (n + m) * bytes ≤ 140737488355328) (hbase : base ≤ w.heap.size)
    (h : ∀ v' w', w'.ownsRow base e 1 v' (n + m) (xs ++ ys.map f) → w.grownBy w' v.ownBlock → (v'.ownBlock = v.ownBlock ∨ v'.ownBlock = some w.heap.size) → wpList P ops Q rest (a.put o.dst v') w') : wpList P ops Q (o :: rest) a w := by
  refine wpList_plain hgd fun K hK => ?_
  obtain ⟨v', w', hr2, h2, h3, h5⟩ := run_append_rd_at (P := P) w base t o.type e i z bytes ht hi hz hsize hby hzs v n xs hown B A c m ys hm hr h1 h63 hbytes hbase
  unfold Oper.wp execOp
  simp only [ho, resolve, invoke, builtin, Sem.run_bind, Sem.run_pure, Result.andThen_ok, List.map_toArray, List.map_cons, List.map_nil, hs, hx, hr2]
  exact hK _ _ (h v' w' h2 h3 h5)
theorem Own.by_ {w w' : World} {lo hi : Nat} {rs : List Row} {os : List Outer} {row : Option Nat} (h : Own w lo hi rs os) (hg : w.grownBy w' row) (hr : ∀ g, row = some g → g < lo ∨ hi ≤ g) : Own w' lo hi rs os := by
  rcases row with _ | g
  · exact h.span (Span.of_grown (lo := lo) (hi := lo) hg fun g h => by cases h) (.inr (Nat.le_refl _))
  · refine h.span (Span.of_grown (lo := g) (hi := g + 1) hg fun g' h => by injection h with h; omega) ?_
    have := hr g rfl
    omega
theorem clsL_few {X : List (List Int)} {n : Nat} (hn : n ≤ 5) : (clsL X n).length ≤ 3125 := Nat.le_trans (List.length_filter_le _ _) (permsL_le5 hn)
theorem clsL_len {X : List (List Int)} {n : Nat} (hn : n ≤ 5) : ∀ p ∈ clsL X n, p.length ≤ 5 := fun p hp => by
  have := (permsL_perm (by omega) (List.mem_filter.1 hp).1).2
  omega
theorem clG_few {X : List (List Int)} {n : Nat} (hn : n ≤ 5) : (clG X n).length ≤ 3125 ∧ ∀ p ∈ clG X n, p.length ≤ 5 := by
  unfold clG
  rw [Int.toNat_natCast]
  split
  · exact ⟨clsL_few hn, clsL_len hn⟩
  · exact ⟨by simp, fun p hp => (List.not_mem_nil hp).elim⟩
/-- Rows of the call's own that were made just now go behind the rows of another list. -/
theorem own_joinB {w1 w2 : World} {lo m : Nat} {prior ns : List Row} {A : Option Addr} {c n k : Nat} {v : Value} (hlo : lo ≤ m) (hO : Own w1 lo m prior [⟨A, c, prior.map Row.v⟩]) (hN : Own w1 m w1.heap.size ns []) (hm : m ≤ w1.heap.size)
    (hn : prior.length = n) (hk : ns.length = k) (h1 : w2.ownsRow lo 36 1 v (n + k) (prior.map Row.v ++ ns.map Row.v)) (hg : w1.grownBy w2 (Value.slice A n c).ownBlock) :
    ∃ A5 c5, v = .slice A5 (n + k) c5 ∧ Own w2 lo w2.heap.size (prior ++ ns) [⟨A5, c5, (prior ++ ns).map Row.v⟩] := by
  subst hn hk
  obtain ⟨A5, c5, rfl, _, _⟩ := own_shape h1
  have hr : Own w1 lo w1.heap.size (prior ++ ns) [] := hO.bare.app hN hlo hm
  have h2 := (hr.with_ (A := A) (c := c) (vs := prior.map Row.v) hO.out (Nat.le_refl _)).kept (Nat.le_refl _) (show (prior.map Row.v).length = prior.length by simp) hg
  refine ⟨A5, c5, rfl, h2.with_ (A := A5) (c := c5) ?_ (Nat.le_refl _)⟩
  have e : ((prior ++ ns).map Row.v).length = prior.length + ns.length := by simp
  rw [e, List.map_append]
  exact h1
theorem cell_two_at {w : World} {H : Nat} (a b : Value) (t : TypeId) (h : w.heap.size = H) : ∀ (j : Nat) (u : Value), [a, b][j]? = some u → (w.alloc (.cells #[a, b] t)).cell? ((⟨H, 0, none⟩ : Addr).add j) = some u := by
  subst h
  intro j u hu
  rw [Addr.add_lit]
  refine (obj_cell (obj_new w _)).trans ?_
  rcases j with _ | _ | j
  · simpa using hu
  · simpa using hu
  · simp at hu
set_option maxHeartbeats 4000000 in
theorem drawIsFinite (A : Option Addr) (c : Nat) (bs : List Int) (w : World) (h : InY w A c bs) :
    Calls Tryz.prog 13 #[.slice A bs.length c] w (RetL1 w) := by
  obtain ⟨j0, hj, hy0, hy1, hy2⟩ := info_parts infoL
  have HC := Lib.hid (l1New_any A c bs w h.len h.rd)
  go_enter Tryz.func13, Tryz.ntmps13
  go_wp2_with fail
  (with_reducible refine HC.out.mono ?_)
  rintro e w1 ⟨q, rfl, hq, hc, hb⟩
  have hq1 := hc.lt
  have HD := Lib.hid (l12Bent_any w1 q A c bs hc)
  clear HC
  go_wp2_with fail
  (with_reducible refine HD.out.mono ?_)
  rintro e w2 ⟨P, pk, ps, rfl, ⟨hp4, hp9⟩, hO1, k1⟩
  have HO := Lib.hid (l1Once_any w2 q A c bs 3 (by omega) k1.cur)
  have hpl : ps.length ≤ 4 := by simpa using hp4
  have HP9 := Lib.hid hp9
  have hs1 := k1.span.size
  clear HD hp4 hp9
  go_wp2_with fail
  (with_reducible refine HO.out.mono ?_)
  rintro e w3 ⟨b, rfl, k2⟩
  have hO1 := (hO1.drawn k2 hq1).wider (hi' := w3.heap.size) (Nat.le_refl _) k2.span.size
  have k3 := k1.trans k2
  have hs3 := k3.span.size
  clear HO k1 k2
  rcases b with _ | _
  · go_wp2_with fail
    go_ret
    exact ⟨P, pk, ps, rfl, few_inL hO1 (Nat.le_refl _) (by have := few_size (X := ps.map Row.xs) (n := 4) (m := 9) (by simpa using hpl) HP9.out; omega), hb.trans (k3.below hq hb.size)⟩
  · have HX := Lib.hid (l1Below_any w3 q A c bs 3 (by omega) k3.cur)
    go_wp2_with fail
    (with_reducible refine HX.out.mono ?_)
    rintro e w4 ⟨x, rfl, hx, k4⟩
    have hx2 : 0 ≤ x ∧ x ≤ 2 := by have := hx.2.1 (by omega); omega
    obtain ⟨n1, rfl⟩ := Int.eq_ofNat_of_zero_le hx2.1
    have e1 : IntKind.i64.wrap (1 + (n1 : Int)) = ((n1 + 1 : Nat) : Int) := by rw [IntWalk.i64_in _ (by omega)]; omega
    have hO1 := (hO1.drawn k4 hq1).wider (hi' := w4.heap.size) (Nat.le_refl _) k4.span.size
    have k5 := k3.trans k4
    have hs5 := k5.span.size
    have HI := Lib.hid (identityPerm_spec (n1 + 1) w4 (by omega))
    rw [show ((n1 + 1 : Nat) : Int) = (n1 : Int) + 1 by omega] at HI
    clear HX hx k3 k4 hs3
    go_wp2_with fail
    (with_reducible refine HI.out.mono ?_)
    rintro e w5 ⟨I1, i1, rfl, _, _, ho1, hb5⟩
    have hN1 := Own.one ho1 (Nat.le_refl w5.heap.size)
    have hO1 := hO1.below hb5
    have k6 := k5.next (hb5.mono hs5) hq1
    have hs6 := hb5.size
    have HX := Lib.hid (l1Below_any w5 q A c bs 3 (by omega) k6.cur)
    clear HI k5 ho1 hb5
    go_wp2_with fail
    (with_reducible refine HX.out.mono ?_)
    rintro e w6 ⟨y, rfl, hy, k7⟩
    have hy2' : 0 ≤ y ∧ y ≤ 2 := by have := hy.2.1 (by omega); omega
    obtain ⟨n2, rfl⟩ := Int.eq_ofNat_of_zero_le hy2'.1
    have e2 : IntKind.i64.wrap (1 + (n2 : Int)) = ((n2 + 1 : Nat) : Int) := by rw [IntWalk.i64_in _ (by omega)]; omega
    have hO1 := hO1.drawn k7 hq1
    have hN1 := (hN1.drawn k7 (by omega)).wider (hi' := w6.heap.size) (Nat.le_refl _) k7.span.size
    have k8 := k6.trans k7
    have hs8 := k7.span.size
    have HI := Lib.hid (identityPerm_spec (n2 + 1) w6 (by omega))
    rw [show ((n2 + 1 : Nat) : Int) = (n2 : Int) + 1 by omega] at HI
    clear HX hy k6 k7
    go_wp2_with fail
    (with_reducible refine HI.out.mono ?_)
    rintro e w7 ⟨I2, i2, rfl, _, _, ho2, hb7⟩
    have hO1 := hO1.below hb7
    have hN1 := hN1.below hb7
    have k9 := k8.next (hb7.mono (by omega)) hq1
    have hs9 := hb7.size
    have HR := Lib.hid (l3Reverse_any I2 i2 (nums (n2 + 1)).length (nums (n2 + 1)) w7 rfl (by simp [nums]; omega) (Rd.of_own ho2))
    obtain ⟨rv, hrv⟩ : ∃ l, l = (nums (n2 + 1)).reverse := ⟨_, rfl⟩
    have hrl : rv.length ≤ 9 := by rw [hrv]; simp [nums]; omega
    rw [← hrv] at HR
    clear hrv
    clear HI k8 ho2 hb7
    go_wp2_with fail
    (with_reducible refine HR.out.mono ?_)
    rintro e w8 ⟨I3, i3, rfl, _, _, ho3, hb8⟩
    have hO1 := hO1.below hb8
    have hN2 := ((hN1.below hb8).wider (hi' := w7.heap.size) (Nat.le_refl _) hs9).add (r := ⟨I3, i3, rv⟩) ho3 hb8.size (by omega)
    have k10 := k9.next (hb8.mono (by omega)) hq1
    have hs10 := hb8.size
    have hown2 := hO1.outN (n := ps.length) (by simp)
    have h18 : w1.heap.size ≤ w8.heap.size := by omega
    clear HR k9 ho3 hb8 hN1
    go_wp2_with (at_builtin; refine wpList_append_own _ rfl _ _ 24 rfl (w1.heap.size) 36 j0 (.slice none 0 0) 1 24 Tryz.underlying24 hj hy0 hy1 hy2 rfl (by decide) _ _ _ rfl (World.ownsRow.alloc hown2 _) ⟨w8.heap.size, 0, none⟩ 2 2 [Value.slice I1 (nums (n1 + 1)).length i1, Value.slice I3 rv.length i3] rfl rfl (cell_two_at _ _ _ (by simp)) (by intro u hu; simp at hu; rcases hu with rfl | rfl <;> rfl) (by unfold maxLen; omega) (by omega) (by simp; omega) ?_; intro v9 w9 hown9 hgrow9 _)
    have hbA := (Below.refl w8.heap.size w8).alloc (Nat.le_refl _) (Obj.cells #[Value.slice I1 (nums (n1 + 1)).length i1, Value.slice I3 rv.length i3] 36)
    obtain ⟨A5, c5, rfl, hO5⟩ := own_joinB (n := ps.length) (k := 2) (by omega) (hO1.below hbA) ((hN2.below hbA).wider (Nat.le_refl _) hbA.size) (by have := hbA.size; omega) rfl rfl hown9 hgrow9
    have hs11 := hgrow9.size
    have kz := (k10.next (hbA.mono (by omega)) hq1).next ((Below.refl w1.heap.size _).grown hgrow9 (by have := hbA.size; omega) (fun g hg => (hO1.olim (n := ps.length) (by simp) g hg).1)) hq1
    obtain ⟨zs, hzs⟩ : ∃ zs, zs = ps ++ [(⟨I1, i1, nums (n1 + 1)⟩ : Row), ⟨I3, i3, rv⟩] := ⟨_, rfl⟩
    have hzl : ps.length + 2 = zs.length := by rw [hzs]; simp
    have hZ9 : (zs.map Row.xs).length ≤ 6 ∧ ∀ p ∈ zs.map Row.xs, p.length ≤ 9 := ⟨by rw [List.length_map, ← hzl]; omega, fun p hp => by
      rw [hzs, List.map_append, List.mem_append] at hp
      rcases hp with hp | hp
      · exact HP9.out p hp
      · simp only [List.map_cons, List.map_nil, List.mem_cons, List.not_mem_nil, or_false] at hp
        rcases hp with rfl | rfl
        · simp [nums]; omega
        · exact hrl⟩
    have hOz : Own w9 w1.heap.size w9.heap.size zs [⟨A5, c5, zs.map Row.v⟩] := by rw [hzs]; exact hO5
    have HM := Lib.hid (makeBasis_spec A5 c5 zs w9 (few_inL hOz (Nat.le_refl _) (by have := few_size hZ9.1 hZ9.2; omega)))
    rw [hzl]
    have hbz := hb.trans (kz.below hq hb.size)
    clear hO1 hN2 k10 hown2 hown9 hgrow9 hbA hO5 hOz hZ9 hzs hzl kz hs11
    go_wp2_with fail
    (with_reducible refine HM.out.mono ?_)
    rintro e wz ⟨Z, zk, rs, rfl, hX, hOr, hbr⟩
    have iz := hOr.read.toL (by have h1 := mkG_le (zs.map Row.xs); rw [← hX] at h1; rw [sizeR_eq]; simpa using h1) (Nat.le_refl _)
    have hbr := hbz.trans (hbr.mono hbz.size)
    clear hX hOr HM
    go_wp2_with fail
    go_ret
    exact ⟨Z, zk, rs, rfl, iz, hbr⟩
end Go.Proofs.YtodloeonlaljpaaGreat
