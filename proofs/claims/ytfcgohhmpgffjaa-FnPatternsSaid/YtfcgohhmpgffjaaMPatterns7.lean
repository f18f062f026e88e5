/- Several texts in one, each with its own head: PT3, E4. No program of ours. -/
import Derived.Test.YtfcgohhmpgffjaaMPatterns6
/- PatternsIn, program and reference. -/
namespace Go.Proofs.Ytfcgohhmpgffjaa
set_option maxRecDepth 100000
open Go Go.RowKit

def piB (p : List Int) (k : Int) : Bool := permB p && decide (0 ≤ k ∧ k ≤ p.length)
def piG (p : List Int) (k : Int) : List (List Int) := if piB p k = true then patsL p k.toNat else []
theorem bits_len (n s : Nat) : (bitsL n s).length ≤ n := by
  unfold bitsL
  rw [List.length_map]
  exact Nat.le_trans (List.length_filter_le _ _) (by simp)
theorem patsTo_len (p : List Int) (k s : Nat) : ∀ q ∈ patsTo p k s, q.length ≤ p.length := fun q h => by
  unfold patsTo at h
  rw [ordL_mem] at h
  obtain ⟨t, _, rfl⟩ := List.mem_map.1 h
  rw [patL_length, atL_length]
  exact bits_len _ _
theorem atL_bits {p : List Int} {j s : Nat} (h : j < p.length) : atL p (bitsL (j + 1) s) = atL p (bitsL j s) ++ (if s.testBit j = true then [p[j]] else []) := by
  rw [bitsL_succ]
  unfold atL
  rw [List.map_append]
  congr 1
  split
  · simp [h]
  · rfl
theorem bit_test (s j : Nat) (hs : s < 9223372036854775808) : (bits BinOp.and IntKind.i64 ((s : Int) / 2 ^ j) 1 == 1) = s.testBit j := by
  have hd : s / 2 ^ j ≤ s := Nat.div_le_self _ _
  have e : bits BinOp.and IntKind.i64 ((s : Int) / 2 ^ j) 1 = ((s / 2 ^ j &&& 1 : Nat) : Int) := by
    rw [show ((s : Int) / 2 ^ j) = ((s / 2 ^ j : Nat) : Int) by push_cast; rfl]
    have h1 : (BitVec.ofInt 64 ((s / 2 ^ j : Nat) : Int)).toNat = s / 2 ^ j := by
      rw [BitVec.ofInt_natCast, BitVec.toNat_ofNat]; exact Nat.mod_eq_of_lt (by omega)
    have h2 : (BitVec.ofInt 64 (1 : Int)).toNat = 1 := by decide
    show IntKind.i64.wrap ((BitVec.ofInt 64 ((s / 2 ^ j : Nat) : Int) &&& BitVec.ofInt 64 (1 : Int)).toNat : Int) = _
    rw [BitVec.toNat_and, h1, h2]
    have := Nat.and_le_right (n := s / 2 ^ j) (m := 1)
    exact IntWalk.i64_in _ (by omega)
  rw [e, Nat.and_one_is_mod, Nat.testBit_eq_decide_div_mod_eq]
  by_cases h : s / 2 ^ j % 2 = 1
  · rw [h]; simp
  · rw [show s / 2 ^ j % 2 = 0 by omega]; simp
set_option maxHeartbeats 4000000 in
theorem patternsIn_spec (A : Option Addr) (c : Nat) (p : List Int) (k : Int) (hk : -9223372036854775808 ≤ k ∧ k ≤ 9223372036854775807) (w : World) (h : In w A c p) :
    Calls Try.prog 17 #[.slice A p.length c, .int .i64 k] w (RetL w (piG p k)) := by
  obtain ⟨i0, hi, hz0, hz1, hz2⟩ := info_parts infoI
  have hlit := Own.lit (lo := w.heap.size) w (Nat.le_refl _)
  have hb0 := (Below.refl w.heap.size w).alloc (Nat.le_refl _) (.cells #[] 24)
  rcases hpb : permB p with _ | _
  · have H1 := Lib.hid hpb
    have HG := Lib.hid (show piG p k = [] by rw [piG, piB, hpb]; rfl)
    clear hpb
    have HC := Lib.hid (isPerm_sb A c p _ false (h.next hb0) H1.out)
    go_enter Try.func17, Try.ntmps17
    go_wp2_with fail
    (with_reducible refine HC.out.mono ?_)
    rintro e w1 ⟨rfl, hd⟩
    go_wp2_with fail
    go_ret
    rw [HG.out]
    exact ⟨_, 0, [], rfl, rfl, (hlit.dr hd).wider (Nat.le_refl _) (by rw [hd.heap]; exact Nat.le_refl _), below_dr hb0 hd⟩
  · have H1 := Lib.hid hpb
    have h8 := (permB_true hpb).1
    clear hpb
    have HC := Lib.hid (isPerm_sb A c p _ true (h.next hb0) H1.out)
    by_cases hkk : 0 ≤ k ∧ k ≤ (p.length : Int)
    · have HD := Lib.hid (show decide ((0 : Int) ≤ k ∧ k ≤ (p.length : Int)) = true from decide_eq_true hkk)
      obtain ⟨kn, rfl⟩ := Int.eq_ofNat_of_zero_le hkk.1
      have HG := Lib.hid (show piG p (kn : Int) = patsTo p kn (2 ^ p.length) by rw [piG, piB, H1.out, Bool.true_and, if_pos HD.out, patsTo_all]; rfl)
      clear hkk
      go_enter Try.func17, Try.ntmps17
      go_wp2_with fail
      (with_reducible refine HC.out.mono ?_)
      rintro e w1 ⟨rfl, hd⟩
      have hO0 := (hlit.dr hd).wider (Nat.le_refl _) (hi' := w1.heap.size) (by rw [hd.heap]; exact Nat.le_refl _)
      have hb1 := below_dr hb0 hd
      go_wp2_with fail
      (with_reducible refine (l1In_b _ 0 (p.length : Int) w1 true HD.out).mono ?_)
      rintro e w2 ⟨rfl, rfl⟩
      clear hlit hb0 HC hd
      go_wp2_with fail
      go_loopw [5, 6] (fun o i wr => ∃ (s : Nat) (A1 : Option Addr) (c1 : Nat) (rs : List Row), s ≤ 2 ^ p.length ∧ i = .int .i64 s ∧ o = .slice A1 rs.length c1 ∧ Hid (rs.map Row.xs = patsTo p kn s) ∧ Own wr w.heap.size wr.heap.size rs [⟨A1, c1, rs.map Row.v⟩] ∧ rs.length ≤ s ∧ Below w.heap.size w wr) (fun _ i _ => 2 ^ p.length - (intOf i).toNat)
      case atStart => exact ⟨0, _, _, [], Nat.zero_le _, rfl, rfl, Lib.hid rfl, hO0, Nat.le_refl _, hb1⟩
      case round =>
        clear hO0 hb1
        obtain ⟨s, A1, c1, rs, hs, rfl, rfl, HX, hO, hrl, hb⟩ := hrel
        have h256 : 2 ^ p.length ≤ 256 := Nat.pow_le_pow_right (by omega) h8
        have HLL := Lib.hid hrl
        obtain ⟨N, hN⟩ : ∃ N, N = 2 ^ p.length := ⟨_, rfl⟩
        have hNs : s ≤ N := by omega
        have hN256 : N ≤ 256 := by omega
        have eM : (2 : Int) ^ p.length = (N : Int) := by rw [hN]; push_cast; rfl
        have eN : wrap64 ((2 : Int) ^ p.length) = (N : Int) := by
          rw [eM]
          unfold wrap64; omega
        have EM := Lib.hid eM
        clear eM
        rcases Nat.lt_or_ge s N with hsN | hsN
        · have lM : (s : Int) < (2 : Int) ^ p.length := by rw [EM.out]; omega
          have lN : (s : Int) < wrap64 ((2 : Int) ^ p.length) := by rw [eN]; omega
          have dN : decide ((s : Int) < wrap64 ((2 : Int) ^ p.length)) = true := decide_eq_true lN
          have HO := Lib.hid hO
          have hX8 := Lib.hid (show ∀ r ∈ rs, r.xs.length ≤ 1048576 from fun r hr => by
            have h1 := map_memX HX.out hr
            have := patsTo_len _ _ _ _ h1
            omega)
          have own0 : (wr.alloc (.cells #[] 3)).ownsRow wr.heap.size 3 1 (.slice (some ⟨wr.heap.size, 0, none⟩) 0 0) 0 ((atL p (bitsL 0 s)).map (Value.int .i64)) := World.ownsRow_lit wr #[] 0 (Nat.le_refl _) (by unfold maxLen; omega) rfl
          have hbL := (Below.refl wr.heap.size wr).alloc (Nat.le_refl _) (.cells #[] 3)
          obtain ⟨wo, rfl⟩ : ∃ wo : World, wo = wr := ⟨_, rfl⟩
          have hsz := hb.size
          clear hO
          go_wp2_with fail
          have HN := Lib.hid hN
          clear hN h256 lM lN dN eN
          go_loopw [7, 8] (fun v i wr => ∃ (j : Nat) (A2 : Option Addr) (c2 : Nat) (L : List Int), j ≤ p.length ∧ i = .int .i64 j ∧ v = .slice A2 L.length c2 ∧ Hid (L = atL p (bitsL j s)) ∧ L.length ≤ j ∧ wr.ownsRow wo.heap.size 3 1 (.slice A2 L.length c2) L.length (L.map (Value.int .i64)) ∧ Below wo.heap.size wo wr) (fun _ i _ => p.length - (intOf i).toNat)
          case atStart => exact ⟨0, _, _, [], Nat.zero_le _, rfl, rfl, Lib.hid rfl, Nat.le_refl _, own0, hbL⟩
          case round =>
            clear own0 hbL
            obtain ⟨j, A2, c2, L, hj, rfl, rfl, HL, hLj, hown, hb2⟩ := hrel
            have hsz2 := hb2.size
            rcases Nat.lt_or_ge j p.length with hlt | hge
            · obtain ⟨bp, op, rfl, _, hcp⟩ := ((h.next hb).next hb2).rd (by omega)
              have g2 := hcp j hlt
              have HBB := Lib.hid (atL_bits (s := s) hlt)
              rcases hbt : s.testBit j with _ | _
              · have dB : (bits BinOp.and IntKind.i64 ((s : Int) / 2 ^ j) 1 == 1) = false := by rw [bit_test s j (by omega)]; exact hbt
                have HT := Lib.hid (show L = atL p (bitsL (j + 1) s) by rw [HBB.out, hbt, ← HL.out]; simp)
                clear hcp hbt
                go_wp2_with fail
                go_roundw
                case rel => exact ⟨j + 1, A2, c2, L, by omega, by go_num, rfl, HT, by omega, hown, hb2⟩
                case measure => simp [intOf]; omega
              · have dB : (bits BinOp.and IntKind.i64 ((s : Int) / 2 ^ j) 1 == 1) = true := by rw [bit_test s j (by omega)]; exact hbt
                have HT := Lib.hid (show L ++ [p[j]] = atL p (bitsL (j + 1) s) by rw [HBB.out, hbt, ← HL.out]; simp)
                have HLN := Lib.hid (show (L ++ [p[j]]).length = L.length + 1 by simp)
                clear hcp hbt
                go_wp2_with (at_builtin; refine wpList_append_own _ rfl _ _ 24 rfl (wo.heap.size) 3 i0 (.int .i64 0) 1 8 Try.underlying24 hi hz0 hz1 hz2 rfl (by decide) _ _ _ rfl (World.ownsRow.alloc hown _) ⟨wr.heap.size, 0, none⟩ 1 1 [.int .i64 (p[j])] rfl rfl (cell_one_new _ _ _) (by intro u hu; simp at hu; subst hu; rfl) (by unfold maxLen; omega) (by omega) (by simp; omega) ?_; intro v1 w1 hown1 hgrow1 _)
                have hS2 : w1.ownsRow wo.heap.size 3 1 v1 (L.length + 1) ((L ++ [p[j]]).map (Value.int .i64)) := by simpa using hown1
                have hb1 := (hb2.alloc hsz2 (Obj.cells #[Value.int .i64 p[j]] 3)).grown hgrow1 (by simp; omega) (by intro g hg; exact ((hown.lt g hg).1))
                obtain ⟨A3, c3, rfl, _, _⟩ := own_shape hS2
                have H1 := Lib.hid hS2
                have H2 := Lib.hid hb1
                clear hS2 hown1 hgrow1 hb1 hown hb2
                go_wp2
                go_roundw
                case rel => exact ⟨j + 1, A3, c3, L ++ [p[j]], by omega, by go_num, by rw [HLN.out], HT, by rw [HLN.out]; omega, by rw [HLN.out]; exact H1.out, H2.out⟩
                case measure => simp [intOf]; omega
            · obtain rfl : j = p.length := by omega
              have HLL2 := Lib.hid (show L.length = (bitsL p.length s).length by rw [HL.out, atL_length])
              have HPS := Lib.hid (patsTo_succ p kn s)
              have HW := Lib.hid ((HO.out.below hb2).wider (Nat.le_refl _) hsz2)
              have hbb := hb.trans (hb2.mono hsz)
              by_cases hk2 : L.length = kn
              · have dK : ((L.length : Int) == (kn : Int)) = true := by simp [hk2]
                have HT := Lib.hid (show patsTo p kn (s + 1) = putL (rs.map Row.xs) (patL L) by rw [HPS.out, if_pos (by rw [← HLL2.out, hk2]), HX.out, HL.out])
                have HC := Lib.hid (pattern_spec A2 c2 L.length L wr rfl (by omega) (Rd.of_own hown))
                clear hk2
                go_wp2_with fail
                (with_reducible refine HC.out.mono ?_)
                rintro e w3 ⟨U, uk, rfl, _, _, ho3, hb3⟩
                have hbb3 := hbb.trans (hb3.mono hbb.size)
                have hO3 := ((HW.out.below hb3).wider (Nat.le_refl _) hb3.size)
                have hin3 : In w3 U uk (patL L) := In.own ho3 (by rw [patL_length]; omega)
                have HR := HLL.out
                have ct := Lib.hid (l3Put_any A1 U c1 uk w.heap.size rs (patL L) w3 hO3 hbb3.size hin3 (by omega) hX8.out)
                have hol := hO3.olim (n := rs.length) (by simp)
                have hs3 := hbb3.size
                clear ho3 hO3
                go_wp2_with fail
                (with_reducible refine ct.out.mono ?_)
                rintro e w4 ⟨A4, c4, ps, rfl, hX4, hO4, hg4⟩
                have hb4 := hbb3.grown hg4 hs3 (fun g hg => (hol g (by rw [← hg]; exact ownBlock_len _ _ _ _ _)).1)
                have K := Lib.hid (And.intro hX4 (And.intro hO4 hb4))
                clear hX4 hO4 hb4 hg4 hol
                go_wp2_with fail
                go_roundw
                case rel => exact ⟨s + 1, A4, c4, ps, by have := HN.out; omega, by go_num, rfl, Lib.hid (by rw [HT.out, K.out.1]), K.out.2.1, by
                  have h1 := congrArg List.length K.out.1
                  have h2 := putL_len (rs.map Row.xs) (patL L)
                  rw [List.length_map] at h1 h2
                  omega, K.out.2.2⟩
                case measure => have := HN.out; simp [intOf]; omega
              · have dK : ((L.length : Int) == (kn : Int)) = false := by simp; omega
                have HT := Lib.hid (show patsTo p kn (s + 1) = rs.map Row.xs by rw [HPS.out, if_neg (by rw [← HLL2.out]; exact hk2), HX.out])
                clear hk2
                go_wp2_with fail
                go_roundw
                case rel => exact ⟨s + 1, A1, c1, rs, by have := HN.out; omega, by go_num, rfl, Lib.hid HT.out.symm, HW.out, by have := HLL.out; omega, hbb⟩
                case measure => have := HN.out; simp [intOf]; omega
        · obtain rfl : s = N := by omega
          have lM : (2 : Int) ^ p.length ≤ (s : Int) := by rw [EM.out]; omega
          have lN : ¬ (s : Int) < wrap64 ((2 : Int) ^ p.length) := by rw [eN]; omega
          have dN : decide ((s : Int) < wrap64 ((2 : Int) ^ p.length)) = false := decide_eq_false lN
          go_wp2_with fail
          go_ret
          rw [HG.out]
          exact ⟨A1, c1, rs, rfl, by rw [HX.out, hN], hO, hb⟩
    · have HD := Lib.hid (show decide ((0 : Int) ≤ k ∧ k ≤ (p.length : Int)) = false from decide_eq_false hkk)
      have HG := Lib.hid (show piG p k = [] by rw [piG, piB, HD.out, Bool.and_false]; rfl)
      clear hkk
      go_enter Try.func17, Try.ntmps17
      go_wp2_with fail
      (with_reducible refine HC.out.mono ?_)
      rintro e w1 ⟨rfl, hd⟩
      go_wp2_with fail
      (with_reducible refine (l1In_b k 0 (p.length : Int) w1 false HD.out).mono ?_)
      rintro e w2 ⟨rfl, rfl⟩
      go_wp2_with fail
      go_ret
      rw [HG.out]
      exact ⟨_, 0, [], rfl, rfl, (hlit.dr hd).wider (Nat.le_refl _) (by rw [hd.heap]; exact Nat.le_refl _), below_dr hb0 hd⟩
theorem ascI_small : ∀ n : Fin 9, ∀ k : Fin 9, (ascI n.val k.val).length ≤ 70 := by decide
set_option maxHeartbeats 4000000 in
theorem patternsIn_impl (A : Option Addr) (c : Nat) (p : List Int) (k : Int) (hk : -9223372036854775808 ≤ k ∧ k ≤ 9223372036854775807) (w : World) (h : In w A c p) :
    Calls Try.prog 9 #[.slice A p.length c, .int .i64 k] w (RetL w (piG p k)) := by
  obtain ⟨i0, hi, hz0, hz1, hz2⟩ := info_parts infoI
  obtain ⟨j0, hj, hy0, hy1, hy2⟩ := info_parts infoL
  have hpl := h.len
  rcases hpb : permB p with _ | _
  · have H1 := Lib.hid hpb
    have HG := Lib.hid (show piG p k = [] by rw [piG, piB, hpb]; rfl)
    clear hpb
    go_enter Try.func9, Try.ntmps9
    go_wp2_with fail
    (with_reducible refine (isPerm_ib A c p w false h H1.out).mono ?_)
    rintro e w1 ⟨rfl, hb1⟩
    go_wp2_with fail
    go_ret
    rw [HG.out]
    exact retL_nil hb1
  · have H1 := Lib.hid hpb
    have h8 := (permB_true hpb).1
    clear hpb
    by_cases hk0 : k < 0
    · have HG := Lib.hid (show piG p k = [] by rw [piG, piB, show decide (0 ≤ k ∧ k ≤ (p.length : Int)) = false from decide_eq_false (by omega), Bool.and_false]; rfl)
      go_enter Try.func9, Try.ntmps9
      go_wp2_with fail
      (with_reducible refine (isPerm_ib A c p w true h H1.out).mono ?_)
      rintro e w1 ⟨rfl, hb1⟩
      go_wp2_with fail
      go_ret
      rw [HG.out]
      exact retL_nil hb1
    · by_cases hk1 : k > (p.length : Int)
      · have HG := Lib.hid (show piG p k = [] by rw [piG, piB, show decide (0 ≤ k ∧ k ≤ (p.length : Int)) = false from decide_eq_false (by omega), Bool.and_false]; rfl)
        go_enter Try.func9, Try.ntmps9
        go_wp2_with fail
        (with_reducible refine (isPerm_ib A c p w true h H1.out).mono ?_)
        rintro e w1 ⟨rfl, hb1⟩
        go_wp2_with fail
        go_ret
        rw [HG.out]
        exact retL_nil hb1
      · obtain ⟨kn, rfl⟩ := Int.eq_ofNat_of_zero_le (show 0 ≤ k by omega)
        have HG := Lib.hid (show piG p (kn : Int) = patsL p kn by rw [piG, piB, H1.out, show decide ((0 : Int) ≤ (kn : Int) ∧ (kn : Int) ≤ (p.length : Int)) = true from decide_eq_true (by omega), Bool.and_true, if_pos rfl]; rfl)
        have hkn : kn ≤ p.length := by omega
        have HSM := Lib.hid (ascI_small ⟨p.length, by omega⟩ ⟨kn, by omega⟩)
        go_enter Try.func9, Try.ntmps9
        go_wp2_with fail
        (with_reducible refine (isPerm_ib A c p w true h H1.out).mono ?_)
        rintro e w0 ⟨rfl, hb0⟩
        go_wp2_with fail
        have hown0 : (w0.alloc (.cells #[] 24)).ownsRow w0.heap.size 24 1 (.slice (some ⟨w0.heap.size, 0, none⟩) 0 0) 0 [] := World.ownsRow_lit w0 #[] 0 (Nat.le_refl _) (by unfold maxLen; omega) rfl
        have hb00 := (Below.refl w0.heap.size w0).alloc (Nat.le_refl _) (.cells #[] 24)
        (with_reducible refine (places_impl p.length kn (w0.alloc (.cells #[] 24)) h8 (by omega)).mono ?_)
        rintro e wk ⟨A1, c1, rs, rfl, hX, hO, hb1⟩
        have hst : Sift wk w0.heap.size (w0.alloc (.cells #[] 24)).heap.size wk.heap.size rs ⟨A1, c1, rs.map Row.v⟩ (some ⟨w0.heap.size, 0, none⟩) 0 [] := Sift.start hO hown0 hb1 (Nat.le_refl _)
        have hol : OutL wk w0.heap.size (some ⟨w0.heap.size, 0, none⟩) 0 [] := ⟨hst.out, fun _ hr => (List.not_mem_nil hr).elim⟩
        have hbw1 := hb00.trans (hb1.mono hb00.size)
        have hlen : rs.length ≤ 70 := by
          have h1 := congrArg List.length hX
          have h2 := HSM.out
          rw [List.length_map] at h1
          omega
        have HX := Lib.hid hX
        have hsz01 : w0.heap.size + 1 ≤ wk.heap.size := by have := hb1.size; simp at this; omega
        have hsz0 : (w0.alloc (Obj.cells #[] 24)).heap.size = w0.heap.size + 1 := by simp
        rw [hsz0] at hst
        have hw0 := hb0.size
        clear hX hO hb1 hown0 hb00 hsz0
        go_wp2_with fail
        go_loopw [5, 7, 8, 10, 30] (fun v _ _ _ i wr => ∃ (j : Nat) (A2 : Option Addr) (c2 : Nat) (qs : List Row), j ≤ rs.length ∧ i = .int .i64 j ∧ v = .slice A2 qs.length c2 ∧ Hid (qs.map Row.xs = ((rs.map Row.xs).take j).map fun l => patL (atL p l)) ∧ qs.length = j ∧
          Sift wr w0.heap.size (w0.heap.size + 1) wk.heap.size rs ⟨A1, c1, rs.map Row.v⟩ A2 c2 (qs.map Row.v) ∧ OutL wr w0.heap.size A2 c2 qs ∧ Below w0.heap.size w0 wr ∧ wk.heap.size ≤ wr.heap.size) (fun _ _ _ _ i _ => rs.length - (intOf i).toNat)
        case atStart => exact ⟨0, _, _, [], Nat.zero_le _, rfl, rfl, Lib.hid rfl, rfl, hst, hol, hbw1, Nat.le_refl _⟩
        case round =>
          clear hst hbw1 hol
          obtain ⟨j, A2, c2, qs, hjr, rfl, rfl, HQ, hql, hS, hOL, hb, hsz⟩ := hrel
          have HQL := Lib.hid hql
          have hql70 : qs.length ≤ 70 := by omega
          clear hql
          rcases Nat.lt_or_ge j rs.length with hlt | hge
          · have hRd := hS.rows.read
            obtain ⟨bo, oo, rfl, _, hc⟩ := hRd.at (by omega)
            have cc := hc j hlt
            have hmem : rs[j].xs ∈ ascI p.length kn := by rw [← HX.out]; exact List.mem_map.2 ⟨rs[j], List.getElem_mem hlt, rfl⟩
            have hml := (ascI_mem hmem).1
            have hma := (ascI_mem hmem).2
            have hin := row_in hRd (List.getElem_mem hlt) (by omega) hsz
            have hmm : ∀ x ∈ rs[j].xs, 1 ≤ x ∧ x ≤ p.length := fun x hx => by have := hma.1 x hx; omega
            have hTQ : ((rs.map Row.xs).take (j + 1)).map (fun l => patL (atL p l)) = qs.map Row.xs ++ [patL (atL p rs[j].xs)] := by
              rw [List.take_succ_eq_append_getElem (by rw [List.length_map]; exact hlt), List.map_append, ← HQ.out]
              simp
            have hl8 : rs[j].xs.length ≤ 8 := by omega
            clear hc hmem hml hma
            obtain ⟨R, hR⟩ : ∃ R : Row, R = rs[j] := ⟨_, rfl⟩
            rw [← hR] at cc hin hmm hTQ hl8
            clear hR
            obtain ⟨RA, Rc, l⟩ := R
            have HTQ := Lib.hid hTQ
            have HS := Lib.hid hS
            have HOL := Lib.hid hOL
            have hll := hin.len
            have hpw := (h.next hb0).next hb
            have own0 : (wr.alloc (.cells #[] 3)).ownsRow wr.heap.size 3 1 (.slice (some ⟨wr.heap.size, 0, none⟩) 0 0) 0 ((atL p (l.take 0)).map (Value.int .i64)) := World.ownsRow_lit wr #[] 0 (Nat.le_refl _) (by unfold maxLen; omega) rfl
            have hbL := (Below.refl wr.heap.size wr).alloc (Nat.le_refl _) (.cells #[] 3)
            obtain ⟨wo, rfl⟩ : ∃ wo : World, wo = wr := ⟨_, rfl⟩
            clear hTQ hS hOL hRd
            go_wp2_with fail
            go_loopw [8, 10, 37] (fun v _ i wr => ∃ (u : Nat) (A3 : Option Addr) (c3 : Nat), u ≤ l.length ∧ i = .int .i64 u ∧ v = .slice A3 u c3 ∧ wr.ownsRow wo.heap.size 3 1 (.slice A3 u c3) u ((atL p (l.take u)).map (Value.int .i64)) ∧ Below wo.heap.size wo wr) (fun _ _ i _ => l.length - (intOf i).toNat)
            case atStart => exact ⟨0, _, _, Nat.zero_le _, rfl, rfl, own0, hbL⟩
            case round =>
              clear own0 hbL
              obtain ⟨u, A3, c3, hu, rfl, rfl, hown, hbi⟩ := hrel
              have hszi := hbi.size
              rcases Nat.lt_or_ge u l.length with hlu | hgu
              · obtain ⟨bl, ol, rfl, _, hcl⟩ := (hin.next hbi).rd (by omega)
                have hxl := hmm l[u] (List.getElem_mem hlu)
                obtain ⟨ck, hck⟩ : ∃ ck : Nat, (ck : Int) + 1 = l[u] := ⟨(l[u] - 1).toNat, by omega⟩
                have hckp : ck < p.length := by omega
                obtain ⟨bp, op, rfl, _, hcp⟩ := (hpw.next hbi).rd (by omega)
                have g1 := hcl u hlu
                have g2 := hcp ck hckp
                rw [← hck] at g1
                have HAT := Lib.hid (atL_take p l u hlu ck hck hckp)
                have e1 : IntKind.i64.wrap ((ck : Int) + 1 - 1) = (ck : Int) := by rw [Int.add_sub_cancel]; exact IntWalk.i64_in _ (by omega)
                clear hcl hcp hxl hck
                go_wp2_with (at_builtin; refine wpList_append_own _ rfl _ _ 24 rfl (wo.heap.size) 3 i0 (.int .i64 0) 1 8 Try.underlying24 hi hz0 hz1 hz2 rfl (by decide) _ _ _ rfl (World.ownsRow.alloc hown _) ⟨wr.heap.size, 0, none⟩ 1 1 [.int .i64 (p[ck])] rfl rfl (cell_one_new _ _ _) (by intro u hu; simp at hu; subst hu; rfl) (by unfold maxLen; omega) (by omega) (by simp; omega) ?_; intro v1 w1 hown1 hgrow1 _)
                have hS2 : w1.ownsRow wo.heap.size 3 1 v1 (u + 1) ((atL p (l.take (u + 1))).map (Value.int .i64)) := by rw [HAT.out]; simpa using hown1
                have hb1 := (hbi.alloc hszi (Obj.cells #[Value.int .i64 p[ck]] 3)).grown hgrow1 (by simp; omega) (by intro g hg; exact ((hown.lt g hg).1))
                obtain ⟨A4, c4, rfl, _, _⟩ := own_shape hS2
                have H1 := Lib.hid hS2
                have H2 := Lib.hid hb1
                clear hS2 hown1 hgrow1 hb1 hown hbi
                go_wp2
                go_roundw
                case rel => exact ⟨u + 1, A4, c4, by omega, by go_num, rfl, H1.out, H2.out⟩
                case measure => simp [intOf]; omega
              · obtain rfl : u = l.length := by omega
                rw [List.take_length] at hown
                have HLA := Lib.hid (atL_length p l)
                have HC := Lib.hid (pattern_impl A3 c3 l.length (atL p l) wr HLA.out (by omega) (Rd.of_own (by rw [HLA.out]; exact hown)))
                have hsz0 := hb.size
                go_wp2_with fail
                (with_reducible refine HC.out.mono ?_)
                rintro e w2 ⟨A4, c4, rfl, hcp4, _, o4, hb2⟩
                have hsz2 := hb2.size
                have hS2 := (HS.out.below hbi).below hb2
                have hbw2 := (hb.trans (hbi.mono hsz0)).trans (hb2.mono (by omega))
                have hOL2 := (HOL.out.below hbi hsz0).below hb2 (by omega)
                have hrow : RowOk w2 w0.heap.size ⟨A4, c4, patL (atL p l)⟩ := ⟨hcp4, .inr (own_mono o4 (by omega))⟩
                have ho2 := hS2.outN (n := qs.length) (by simp)
                have hol := hS2.olim (n := qs.length) (by simp)
                clear o4 hown hbi hb2
                go_wp2_with (at_builtin; refine wpList_append_own_at _ rfl _ _ 27 rfl (w0.heap.size) 24 j0 (.slice none 0 0) 1 24 Try.underlying27 hj hy0 hy1 hy2 rfl (by decide) _ _ _ rfl (World.ownsRow.alloc ho2 _) ⟨w2.heap.size, 0, none⟩ 1 1 [Value.slice A4 (patL (atL p l)).length c4] rfl rfl (cell_one_at _ _ (by simp)) (by intro u hu; simp at hu; subst hu; rfl) (by unfold maxLen; omega) (by omega) (by simp; omega) ?_; intro v9 w9 hown9 hgrow9 _ hat9)
                obtain ⟨A5, c5, rfl, hS3, hg3⟩ := hS2.grow (by omega) (by simp) hown9 hgrow9 hat9
                obtain ⟨A6, c6, e6, hO3, _, _⟩ := hOL2.push (r := ⟨A4, c4, patL (atL p l)⟩) rfl (by omega) hrow hown9 hgrow9
                injection e6 with e6 _ e7
                subst e6 e7
                have hb3 := hbw2.grown hg3 hbw2.size hol
                have K := Lib.hid (And.intro (show Sift w9 w0.heap.size (w0.heap.size + 1) wk.heap.size rs ⟨some ⟨bo, oo, none⟩, c1, rs.map Row.v⟩ A5 c5 ((qs ++ [(⟨A4, c4, patL (atL p l)⟩ : Row)]).map Row.v) by rw [List.map_append]; exact hS3) (And.intro hO3 hb3))
                have hsz3 : wk.heap.size ≤ w9.heap.size := by have := hg3.size; omega
                clear hS3 hO3 hb3 hown9 hgrow9 hat9 hg3 hS2 hOL2 ho2 hol hbw2 hrow
                go_wp2_with fail
                go_roundw
                case rel => exact ⟨j + 1, A5, c5, qs ++ [⟨A4, c4, patL (atL p l)⟩], by omega, by go_num, by rw [List.length_append]; rfl, Lib.hid (by rw [HTQ.out, List.map_append]; rfl), by rw [List.length_append, HQL.out]; rfl, K.out.1, K.out.2.1, K.out.2.2, hsz3⟩
                case measure => simp [intOf]; omega
          · obtain rfl : j = rs.length := by omega
            have hXX := HX.out
            have HEQ := Lib.hid (show qs.map Row.xs = patsM p kn by rw [HQ.out, List.take_of_length_le (by simp), HX.out]; rfl)
            have hin : InL wr A2 c2 qs := hOL.inL hb.size (by
              have hql := HQL.out
              have h1 := sizeX_of (X := qs.map Row.xs) (m := 8) (fun s hs => by
                rw [HEQ.out] at hs
                unfold patsM at hs
                obtain ⟨l, hl, rfl⟩ := List.mem_map.1 hs
                rw [patL_length, atL_length, (ascI_mem hl).1]
                omega)
              rw [sizeR_eq]
              rw [List.length_map] at h1
              omega)
            have HC := Lib.hid (ordered_impl A2 c2 qs wr hin)
            have hw1 := hb.size
            clear hXX hS hOL
            go_wp2_with fail
            (with_reducible refine HC.out.mono ?_)
            rintro e w2 ⟨A4, c4, os, rfl, hX4, hO4, hb4⟩
            have HX4 := Lib.hid hX4
            clear hX4
            go_wp2_with fail
            go_ret
            rw [HG.out]
            exact ⟨A4, c4, os, rfl, by rw [HX4.out, HEQ.out]; rfl, hO4.wider (by omega) (Nat.le_refl _), hb0.trans ((hb.trans (hb4.mono hw1)).mono hw0)⟩
end Go.Proofs.Ytfcgohhmpgffjaa

/- Plain maths of FnPatterns: sizes, and what the law says. -/
namespace Go.Proofs.Ytfcgohhmpgffjaa
set_option maxRecDepth 100000
open Go Go.RowKit

theorem oo_row {p q : List Int} {l : List Int} (h : l ∈ ooG p q) : isoB p q l = true ∧ l.length ≤ 8 := by
  unfold ooG at h
  split at h
  · rename_i hh
    refine ⟨occ_iso hh.1 hh.2 h, ?_⟩
    rw [occ_eq hh.1 hh.2] at h
    have := (ascI_mem (List.mem_filter.1 h).1).1
    have := (permB_true hh.2).1
    omega
  · cases h
theorem oo_len (p q : List Int) : (ooG p q).length ≤ 70 := by
  unfold ooG
  split
  · rename_i hh
    rw [occ_eq hh.1 hh.2]
    have h1 := (permB_true hh.1).1
    have h2 := (permB_true hh.2).1
    exact Nat.le_trans (List.length_filter_le _ _) (ascI_small ⟨p.length, by omega⟩ ⟨q.length, by omega⟩)
  · simp
theorem pi_row {p : List Int} {k : Int} {l : List Int} (h : l ∈ piG p k) : hpG p l = true ∧ l.length ≤ 8 := by
  unfold piG at h
  split at h
  · rename_i hh
    have hp : permB p = true := by
      unfold piB at hh
      simp only [Bool.and_eq_true] at hh
      exact hh.1
    have := pats_has hp h
    exact ⟨by rw [hpG, hp, this.1, this.2]; rfl, (permB_true this.1).1⟩
  · cases h
theorem pi_len (p : List Int) (k : Int) : (piG p k).length ≤ 70 := by
  unfold piG
  split
  · rename_i hh
    unfold piB at hh
    simp only [Bool.and_eq_true, decide_eq_true_eq] at hh
    have h1 := (permB_true hh.1).1
    unfold patsL patsM
    refine Nat.le_trans (ordL_len _) ?_
    rw [List.length_map]
    exact ascI_small ⟨p.length, by omega⟩ ⟨k.toNat, by omega⟩
  · simp
theorem low_row {p : List Int} {l : List Int} (h : l ∈ lowG p) : l.length ≤ 8 := by
  unfold lowG at h
  split at h
  · rename_i hh
    unfold lowL at h
    rw [ordL_mem] at h
    have := lowM_len (Nat.le_refl _) l h
    have := (permB_true hh).1
    omega
  · cases h
theorem low_len (p : List Int) : (lowG p).length ≤ 8 := by
  unfold lowG
  split
  · rename_i hh
    unfold lowL
    have := ordL_len (lowM p p.length)
    rw [lowM_length] at this
    have := (permB_true hh).1
    omega
  · simp
theorem small_rows {rs : List Row} {X : List (List Int)} (hX : rs.map Row.xs = X) (hl : X.length ≤ 70) (hr : ∀ l ∈ X, l.length ≤ 8) : rs.length + sizeR rs ≤ 1048576 := by
  have h1 := sizeX_of (X := X) (m := 8) hr
  have h2 : rs.length = X.length := by rw [← hX, List.length_map]
  rw [sizeR_eq, hX]
  omega
theorem cp_oo {p q : List Int} (hp : permB p = true) (hq : permB q = true) : cpG p q = ((ooG p q).length : Int) := by rw [cpG, if_pos ⟨hp, hq⟩, ooG, if_pos ⟨hp, hq⟩]
theorem cp_inv {p q : List Int} (hp : permB p = true) (hq : permB q = true) : cpG (invG1 p) (invG1 q) = ((ooG p q).length : Int) := by
  rw [invG1, if_pos hp, invG1, if_pos hq, cp_oo (perm_inv hp) (perm_inv hq), ooG, if_pos ⟨perm_inv hp, perm_inv hq⟩, ooG, if_pos ⟨hp, hq⟩, occ_eq (perm_inv hp) (perm_inv hq), occ_eq hp hq, occ_count_inverse hp hq]
theorem cp_rev {p q : List Int} (hp : permB p = true) (hq : permB q = true) : cpG (revG p) (revG q) = ((ooG p q).length : Int) := by
  rw [revG, if_pos hp, revG, if_pos hq, cp_oo (perm_reverse hp) (perm_reverse hq), ooG, if_pos ⟨perm_reverse hp, perm_reverse hq⟩, ooG, if_pos ⟨hp, hq⟩, occ_eq (perm_reverse hp) (perm_reverse hq), occ_eq hp hq, occ_count_reverse hp hq]
theorem invG1_le (p : List Int) : (invG1 p).length ≤ p.length := by
  unfold invG1
  split
  · exact Nat.le_of_eq (invL_length p)
  · simp
theorem wp_facts {s : List Int} {x : Int} (h : wpB s x = true) : hpG s (wpG s x) = true ∧ wpG s x ∈ lowG s := by
  have h' := h
  unfold wpB at h'
  simp only [Bool.and_eq_true, decide_eq_true_eq] at h'
  obtain ⟨hp, h1, h2⟩ := h'
  have hi : (x - 1).toNat < s.length := by omega
  have hc := cut_occ hp hi
  rw [wpG, if_pos h]
  refine ⟨by rw [hpG, hp, hc.1, hc.2]; rfl, ?_⟩
  rw [lowG, if_pos hp]
  unfold lowL lowM
  rw [ordL_mem]
  exact List.mem_map.2 ⟨_, List.mem_range.2 hi, rfl⟩
end Go.Proofs.Ytfcgohhmpgffjaa
