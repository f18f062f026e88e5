/- ClassCounts, program and reference. -/
import Derived.Test.YtmkaelefljjamaaM4
import Derived.Test.YtmkaelefljjamaaV1
import Derived.Deep.RegionHeld3
import Derived.Deep.AppendLies
namespace Go.Proofs.Ytmkaelefljjamaa
set_option maxRecDepth 100000
open Go Go.RowKit

def ccG (X : List (List Int)) (n : Int) : List Int := if basisB X = true ∧ sixB n = true then (List.range (n.toNat + 1)).map fun k => ((clsL X k).length : Int) else []
theorem ccG_le (X : List (List Int)) (n : Int) : (ccG X n).length ≤ 1048576 := by
  unfold ccG
  by_cases h : basisB X = true ∧ sixB n = true
  · rw [if_pos h]
    have h6 : 0 ≤ n ∧ n ≤ 6 := by simpa [sixB] using h.2
    simp
    omega
  · rw [if_neg h]; simp
def cntsTo (F : Nat → Nat) (k : Nat) : List Int := (List.range k).map fun j => (F j : Int)
theorem cntsTo_succ (F : Nat → Nat) (k : Nat) : cntsTo F (k + 1) = cntsTo F k ++ [(F k : Int)] := by simp [cntsTo, List.range_succ]
theorem cntsTo_length (F : Nat → Nat) (k : Nat) : (cntsTo F k).length = k := by simp [cntsTo]

theorem grown_drewW {w w' : World} {row : Option Nat} (h : w.drew.grownBy w' row) : w.grownBy w' row := ⟨h.os, h.tape, h.output, h.size, h.block⟩

set_option maxHeartbeats 2000000 in
theorem classCounts_impl (A : Option Addr) (c : Nat) (qs : List Row) (n : Int) (_ : -9223372036854775808 ≤ n ∧ n ≤ 9223372036854775807) (w : World) (h : InL w A c qs) :
    Calls Try.prog 41 #[.slice A qs.length c, .int .i64 n] w (Ret (Value.int .i64) 3 w (ccG (qs.map Row.xs) n)) := by
  obtain ⟨i0, hi, hz0, hz1, hz2⟩ := info_parts infoI
  by_cases hB : basisB (qs.map Row.xs) = true
  · have H1 := Lib.hid hB
    have hr8 := rows_8 (basis_perm hB)
    clear hB
    go_enter Try.func41, Try.ntmps41
    go_wp2_with fail
    (with_reducible refine (basis_ib A c qs w true h H1.out).mono ?_)
    rintro e w1 ⟨rfl, hb1⟩
    go_wp2_with fail
    by_cases h6 : sixB n = true
    · have h6' : 0 ≤ n ∧ n ≤ 6 := by simpa [sixB] using h6
      obtain ⟨m, rfl⟩ := Int.eq_ofNat_of_zero_le h6'.1
      have hm : m ≤ 6 := by omega
      have HG := Lib.hid (show ccG (qs.map Row.xs) m = cntsTo (fun k => (clsL (qs.map Row.xs) k).length) (m + 1) by unfold ccG; rw [if_pos ⟨H1.out, h6⟩]; rfl)
      (with_reducible refine (isSix_any (m : Int) w1 true h6).mono ?_)
      rintro e w' ⟨rfl, rfl⟩
      clear h6 h6'
      have hsz1 := hb1.size
      have hown0 : (w1.alloc (.cells #[] 3)).ownsRow w.heap.size 3 1 (.slice (some ⟨w1.heap.size, 0, none⟩) 0 0) 0 ((cntsTo (fun k => (clsL (qs.map Row.xs) k).length) 0).map (Value.int .i64)) := World.ownsRow_lit w1 #[] 0 hsz1 (by unfold maxLen; omega) rfl
      have hb0 := hb1.alloc hsz1 (.cells #[] 3)
      go_wp2_with fail
      go_loopw [5, 18] (fun v i wr => ∃ (k : Nat) (A1 : Option Addr) (c1 : Nat), k ≤ m + 1 ∧ i = .int .i64 k ∧ v = .slice A1 k c1 ∧ wr.ownsRow w.heap.size 3 1 (.slice A1 k c1) k ((cntsTo (fun k => (clsL (qs.map Row.xs) k).length) k).map (Value.int .i64)) ∧ Below w.heap.size w wr) (fun _ i _ => m + 1 - (intOf i).toNat)
      case atStart => exact ⟨0, _, _, Nat.zero_le _, rfl, rfl, hown0, hb0⟩
      case round =>
        clear hown0 hb0
        obtain ⟨k, A1, c1, hk, rfl, rfl, hown, hb⟩ := hrel
        rcases Nat.lt_or_ge k (m + 1) with hlt | hge
        · have HS := Lib.hid (cntsTo_succ (fun k => (clsL (qs.map Row.xs) k).length) k)
          go_wp2_with fail
          (with_reducible refine (class_impl A c k qs wr (h.next hb) hr8 (by omega)).mono ?_)
          rintro e w2 ⟨A2, c2, rs, rfl, hX, hO, hb2⟩
          have HL := Lib.hid (show (clsL (qs.map Row.xs) k).length = rs.length by rw [← hX, List.length_map])
          have hown2 := own_below hown hb2
          have hbw := hb.trans (hb2.mono hb.size)
          have hszw := hbw.size
          clear hown hX hO hb2
          go_wp2_with (at_builtin; refine wpList_append_own _ rfl _ _ 22 rfl (w.heap.size) 3 i0 (.int .i64 0) 1 8 Try.underlying22 hi hz0 hz1 hz2 rfl (by decide) _ _ _ rfl (World.ownsRow.alloc hown2 _) ⟨w2.heap.size, 0, none⟩ 1 1 [.int .i64 ((rs.length : Int))] rfl rfl (cell_one_new _ _ _) (by intro u hu; simp at hu; subst hu; rfl) (by unfold maxLen; omega) (by omega) (by simp; omega) ?_; intro v7 w7 hown7 hgrow7 _)
          have hS2 : w7.ownsRow w.heap.size 3 1 v7 (k + 1) ((cntsTo (fun k => (clsL (qs.map Row.xs) k).length) (k + 1)).map (Value.int .i64)) := by rw [HS.out, HL.out]; simpa using hown7
          have hb3 := (hbw.alloc hszw _).grown hgrow7 (by simp; omega) (fun g hg => (hown2.lt g hg).1)
          obtain ⟨A3, c3, rfl, _, _⟩ := own_shape hS2
          have K := Lib.hid (And.intro hS2 hb3)
          clear hS2 hown7 hgrow7 hb3 hown2 hbw
          go_wp2
          go_roundw
          case rel => exact ⟨k + 1, A3, c3, by omega, by go_num, rfl, K.out.1, K.out.2⟩
          case measure => simp [intOf]; omega
        · obtain rfl : k = m + 1 := by omega
          have HL := Lib.hid (cntsTo_length (fun k => (clsL (qs.map Row.xs) k).length) (m + 1))
          go_wp2
          go_ret
          rw [HG.out]
          exact ⟨A1, c1, by rw [HL.out]; rfl, by rw [HL.out]; exact (own_caps hown).1, (own_caps hown).2, by rw [HL.out]; exact hown, hb⟩
    · have h6f : sixB n = false := by simpa using h6
      have HG := Lib.hid (show ccG (qs.map Row.xs) n = [] by unfold ccG; rw [if_neg]; exact fun h => h6 h.2)
      (with_reducible refine (isSix_any n w1 false h6f).mono ?_)
      rintro e w' ⟨rfl, rfl⟩
      clear h6 h6f
      go_wp2_with fail
      go_ret
      rw [HG.out]
      exact ⟨none, 0, rfl, Nat.le_refl _, Nat.zero_le _, World.ownsRow_nil _ _ _ _, hb1⟩
  · have hBf : basisB (qs.map Row.xs) = false := by simpa using hB
    have H1 := Lib.hid hBf
    have HG := Lib.hid (show ccG (qs.map Row.xs) n = [] by unfold ccG; rw [if_neg]; exact fun h => hB h.1)
    clear hB hBf
    go_enter Try.func41, Try.ntmps41
    go_wp2_with fail
    (with_reducible refine (basis_ib A c qs w false h H1.out).mono ?_)
    rintro e w1 ⟨rfl, hb1⟩
    go_wp2_with fail
    go_ret
    rw [HG.out]
    exact ⟨none, 0, rfl, Nat.le_refl _, Nat.zero_le _, World.ownsRow_nil _ _ _ _, hb1⟩

def nxTo (X : List (List Int)) (q : List Int) (u : Nat) : List (List Int) := ((nums u).map (child q)).filter (avoidB X)
theorem nxTo_succ (X : List (List Int)) (q : List Int) (u : Nat) : nxTo X q (u + 1) = if avoidB X (child q ((u : Int) + 1)) = true then nxTo X q u ++ [child q ((u : Int) + 1)] else nxTo X q u := by
  unfold nxTo
  rw [nums_succ, List.map_append, List.filter_append]
  by_cases h : avoidB X (child q ((u : Int) + 1)) = true <;> simp [h]
theorem nxTo_le (X : List (List Int)) (q : List Int) (u : Nat) : (nxTo X q u).length ≤ u := by
  unfold nxTo
  have := List.length_filter_le (avoidB X) ((nums u).map (child q))
  rw [List.length_map, nums_length] at this
  exact this
theorem nextL_take_le (X L : List (List Int)) (n k : Nat) : (nextL X (L.take k) n).length ≤ L.length * n := by
  have h1 := flatMap_le (fun q => ((nums n).map (child q)).filter (avoidB X)) n (L.take k) (fun q _ => nxTo_le X q n)
  have h2 : (L.take k).length ≤ L.length := by simp; omega
  exact Nat.le_trans h1 (Nat.mul_le_mul_right n h2)
theorem nextL_succ (X L : List (List Int)) (n k : Nat) (h : k < L.length) : nextL X (L.take (k + 1)) n = nextL X (L.take k) n ++ nxTo X L[k] n := by
  unfold nextL
  rw [flatMap_take _ _ _ h]; rfl
set_option maxHeartbeats 8000000 in
theorem l12Next_any (A : Option Addr) (c : Nat) (qs : List Row) (B : Option Addr) (d n : Nat) (ls : List Row) (w : World) (h : InL w A c qs) (hr8 : ∀ r ∈ qs, r.xs.length ≤ 8) (hn : n ≤ 6)
    (hR : Read w w.heap.size ls [⟨B, d, ls.map Row.v⟩]) (hll : ls.length ≤ 46656) (hl5 : ∀ r ∈ ls, r.xs.length ≤ 5 ∧ ∀ x ∈ r.xs, 1 ≤ x ∧ x ≤ 8) :
    Calls Try.prog 118 #[.slice A qs.length c, .slice B ls.length d, .int .i64 n] w (RetL w (nextL (qs.map Row.xs) (ls.map Row.xs) n)) := by
  obtain ⟨i0, hi, hz0, hz1, hz2⟩ := info_parts infoI
  obtain ⟨j0, hj, hy0, hy1, hy2⟩ := info_parts infoL
  have hlit := Own.lit (lo := w.heap.size) w (Nat.le_refl _)
  have hb0 := (Below.refl w.heap.size w).alloc (Nat.le_refl _) (.cells #[] 22)
  go_enter Try.func118, Try.ntmps118
  go_wp2_with fail
  go_loopw [7, 8] (fun v i wr => ∃ (k : Nat) (A1 : Option Addr) (c1 : Nat) (rs : List Row), k ≤ ls.length ∧ i = .int .i64 k ∧ v = .slice A1 rs.length c1 ∧ Hid (rs.map Row.xs = nextL (qs.map Row.xs) ((ls.map Row.xs).take k) n) ∧ Own wr w.heap.size wr.heap.size rs [⟨A1, c1, rs.map Row.v⟩] ∧ Below w.heap.size w wr) (fun _ i _ => ls.length - (intOf i).toNat)
  case atStart => exact ⟨0, _, _, [], Nat.zero_le _, rfl, rfl, Lib.hid rfl, hlit, hb0⟩
  case round =>
    clear hlit hb0
    obtain ⟨k, A1, c1, rs, hk, rfl, rfl, HX, hO, hb⟩ := hrel
    rcases Nat.lt_or_ge k ls.length with hlt | hge
    · have hq5 := hl5 ls[k] (List.getElem_mem hlt)
      obtain ⟨q, hqe⟩ : ∃ q : Row, q = ls[k] := ⟨_, rfl⟩
      have HQ := Lib.hid hqe
      rw [← hqe] at hq5
      obtain ⟨hq5, hqv⟩ := hq5
      have HNX := Lib.hid (show nextL (qs.map Row.xs) ((ls.map Row.xs).take (k + 1)) n = nextL (qs.map Row.xs) ((ls.map Row.xs).take k) n ++ nxTo (qs.map Row.xs) q.xs n by
        rw [nextL_succ _ _ _ _ (by simpa using hlt)]; simp [hqe])
      clear hqe
      go_wp2_with fail
      go_loopw [7, 9] (fun v i wr => ∃ (u : Nat) (A2 : Option Addr) (c2 : Nat) (rs2 : List Row), u ≤ n ∧ i = .int .i64 ((u : Int) + 1) ∧ v = .slice A2 rs2.length c2 ∧ Hid (rs2.map Row.xs = nextL (qs.map Row.xs) ((ls.map Row.xs).take k) n ++ nxTo (qs.map Row.xs) q.xs u) ∧ Own wr w.heap.size wr.heap.size rs2 [⟨A2, c2, rs2.map Row.v⟩] ∧ Below w.heap.size w wr) (fun _ i _ => n + 1 - (intOf i).toNat)
      case atStart => exact ⟨0, _, _, rs, Nat.zero_le _, rfl, rfl, Lib.hid (by rw [HX.out]; simp [nxTo, nums]), hO, hb⟩
      case round =>
        clear hO hb HX
        obtain ⟨u, A2, c2, rs2, hu, rfl, rfl, HX2, hO2, hb2⟩ := hrel
        have hcnt : rs2.length ≤ 46656 * 6 + 6 := by
          have h1 := congrArg List.length HX2.out
          have h2 := nextL_take_le (qs.map Row.xs) (ls.map Row.xs) n k
          have h3 := nxTo_le (qs.map Row.xs) q.xs u
          rw [List.length_append, List.length_map] at h1
          rw [List.length_map] at h2
          have h4 := Nat.mul_le_mul hll hn
          omega
        rcases Nat.lt_or_ge u n with hlt2 | hge2
        · obtain ⟨wo, rfl⟩ : ∃ wo : World, wo = wr := ⟨_, rfl⟩
          have hown0 : (wo.alloc (.cells #[] 3)).ownsRow wo.heap.size 3 1 (.slice (some ⟨wo.heap.size, 0, none⟩) 0 0) 0 (((q.xs.take 0).map (bump ((u : Int) + 1))).map (Value.int .i64)) := World.ownsRow_lit wo #[] 0 (Nat.le_refl _) (by unfold maxLen; omega) rfl
          have hb3 := (Below.refl wo.heap.size wo).alloc (Nat.le_refl _) (.cells #[] 3)
          have hszo := hb2.size
          have HNS := Lib.hid (nxTo_succ (qs.map Row.xs) q.xs u)
          have hun : (u : Int) + 1 ≤ (n : Int) := by omega
          go_wp2_with fail
          go_loopw [10, 11] (fun v i wr => ∃ (i' : Nat) (A3 : Option Addr) (c3 : Nat), i' ≤ q.xs.length ∧ i = .int .i64 i' ∧ v = .slice A3 i' c3 ∧ wr.ownsRow wo.heap.size 3 1 (.slice A3 i' c3) i' (((q.xs.take i').map (bump ((u : Int) + 1))).map (Value.int .i64)) ∧ Below wo.heap.size wo wr) (fun _ i _ => q.xs.length - (intOf i).toNat)
          case atStart => exact ⟨0, _, _, Nat.zero_le _, rfl, rfl, hown0, hb3⟩
          case round =>
            clear hown0 hb3
            obtain ⟨j, A3, c3, hj, rfl, rfl, hown, hb3⟩ := hrel
            have hbw := hb2.trans (hb3.mono hszo)
            have hRr := hR.below hbw
            obtain ⟨bl, ol, rfl, hbl, hcl⟩ := hRr.at (by omega)
            have g1 : wr.cell? ⟨bl, ol + k, none⟩ = some (Value.slice q.A q.xs.length q.c) := by rw [HQ.out]; exact hcl k hlt
            clear hcl
            rcases Nat.lt_or_ge j q.xs.length with hjl | hjg
            · have hrq := hRr.rd q (by rw [HQ.out]; exact List.getElem_mem hlt)
              obtain ⟨bq, oq, hqA, hbq, hcq⟩ := hrq (by omega)
              have g2 := hcq j hjl
              have hvj := hqv q.xs[j] (List.getElem_mem hjl)
              have hsz3 := hb3.size
              have hblo : bl < wo.heap.size := by omega
              have HT := Lib.hid (show (q.xs.take (j + 1)).map (bump ((u : Int) + 1)) = (q.xs.take j).map (bump ((u : Int) + 1)) ++ [bump ((u : Int) + 1) q.xs[j]] by rw [List.take_succ_eq_append_getElem hjl, List.map_append]; rfl)
              rw [hqA] at g1
              have g1d : wr.drew.cell? ⟨bl, ol + k, none⟩ = some (Value.slice (some ⟨bq, oq, none⟩) q.xs.length q.c) := g1
              have g2d : wr.drew.cell? ⟨bq, oq + j, none⟩ = some (.int .i64 q.xs[j]) := g2
              obtain ⟨x, hx⟩ : ∃ x : Int, x = q.xs[j] := ⟨_, rfl⟩
              rw [← hx] at HT g2 g2d hvj
              clear hx hcq
              have hx8 := hvj
              have HJ := Lib.hid hj
              have HQ5 := Lib.hid hq5
              have HJ1 := Lib.hid (Nat.succ_le_of_lt hjl)
              by_cases hge : (u : Int) + 1 ≤ x
              · have HB := Lib.hid (show bump ((u : Int) + 1) x = x + 1 by unfold bump; rw [if_pos hge])
                have hwr : IntKind.i64.wrap (x + 1) = x + 1 := IntWalk.i64_in _ (by omega)
                go_wp2_with fail
                go_region_held3 (fun v => v.cell? ⟨bl, ol + k, none⟩ = some (Value.slice (some ⟨bq, oq, none⟩) q.xs.length q.c) ∧ v.cell? ⟨bq, oq + j, none⟩ = some (.int .i64 x)) (first | exact ⟨g1d, g2d⟩ | exact ⟨(World.cell?_alloc_lt wr _ _ (by show bl < wr.heap.size; omega)).trans g1, (World.cell?_alloc_lt wr _ _ (by show bq < wr.heap.size; omega)).trans g2⟩ | exact ⟨g19, g29⟩) ((first | (go_at_call 55; (with_reducible refine (l1Bit_b true 1 _ rfl).mono ?_); rintro e w' ⟨rfl, rfl⟩) | (refine step_append_lies _ (by rfl) _ _ _ (by rfl) wo.heap.size 3 i0 (.int .i64 0) 1 8 Try.underlying22 hi hz0 hz1 hz2 rfl (by decide) (Value.slice A3 j c3) j _ (by rfl) ((World.ownsRow.alloc hown _).drew) ⟨wr.heap.size, 0, none⟩ 1 1 [.int .i64 (x + 1)] (by rfl) (by rfl) (cell_one_new _ _ _) (by intro u hu; simp at hu; subst hu; rfl) (by omega) (by unfold maxLen; omega) (by omega) (by simp; omega) (wr.heap.size + 1) (by simp) ?_; intro gg cap w9 hown9 hgrow9 hat hlt9; have g19 : w9.cell? ⟨bl, ol + k, none⟩ = some (Value.slice (some ⟨bq, oq, none⟩) q.xs.length q.c) := (grown_drewW hgrow9).cell ((World.cell?_alloc_lt wr _ _ (by show bl < wr.heap.size; omega)).trans g1) (by intro he; have := (hown.lt _ he.symm).1; simp at this; omega); have g29 : w9.cell? ⟨bq, oq + j, none⟩ = some (.int .i64 x) := (grown_drewW hgrow9).cell ((World.cell?_alloc_lt wr _ _ (by show bq < wr.heap.size; omega)).trans g2) (by intro he; have := (hown.lt _ he.symm).1; simp at this; omega)) | fail))
                have hb4 := (hb3.alloc hsz3 _).grown (grown_drewW hgrow9) (by simp; omega) (fun g hg => (hown.lt g hg).1)
                have K := Lib.hid (And.intro hown9 hb4)
                clear hown9 hgrow9 hb4 hat hlt9 g19 g29
                go_wp2_with fail
                go_roundw
                case rel => exact ⟨j + 1, _, cap, HJ1.out, by go_num, rfl, by rw [HT.out, HB.out, List.map_append]; exact K.out.1, K.out.2⟩
                case measure => simp [intOf]; have := HJ1.out; omega
              · have HB := Lib.hid (show bump ((u : Int) + 1) x = x by unfold bump; rw [if_neg hge, Int.add_zero])
                have hwr : IntKind.i64.wrap (x + 0) = x := by rw [Int.add_zero]; exact IntWalk.i64_in _ (by omega)
                have hwr2 : IntKind.i64.wrap x = x := IntWalk.i64_in _ (by omega)
                go_wp2_with fail
                go_region_held3 (fun v => v.cell? ⟨bl, ol + k, none⟩ = some (Value.slice (some ⟨bq, oq, none⟩) q.xs.length q.c) ∧ v.cell? ⟨bq, oq + j, none⟩ = some (.int .i64 x)) (first | exact ⟨g1d, g2d⟩ | exact ⟨(World.cell?_alloc_lt wr _ _ (by show bl < wr.heap.size; omega)).trans g1, (World.cell?_alloc_lt wr _ _ (by show bq < wr.heap.size; omega)).trans g2⟩ | exact ⟨g19, g29⟩) ((first | (go_at_call 55; (with_reducible refine (l1Bit_b (decide ((u : Int) + 1 ≤ x)) 0 _ (by rw [if_neg]; simpa using hge)).mono ?_); rintro e w' ⟨rfl, rfl⟩) | (refine step_append_lies _ (by rfl) _ _ _ (by rfl) wo.heap.size 3 i0 (.int .i64 0) 1 8 Try.underlying22 hi hz0 hz1 hz2 rfl (by decide) (Value.slice A3 j c3) j _ (by rfl) ((World.ownsRow.alloc hown _).drew) ⟨wr.heap.size, 0, none⟩ 1 1 [.int .i64 (x)] (by rfl) (by rfl) (cell_one_new _ _ _) (by intro u hu; simp at hu; subst hu; rfl) (by omega) (by unfold maxLen; omega) (by omega) (by simp; omega) (wr.heap.size + 1) (by simp) ?_; intro gg cap w9 hown9 hgrow9 hat hlt9; have g19 : w9.cell? ⟨bl, ol + k, none⟩ = some (Value.slice (some ⟨bq, oq, none⟩) q.xs.length q.c) := (grown_drewW hgrow9).cell ((World.cell?_alloc_lt wr _ _ (by show bl < wr.heap.size; omega)).trans g1) (by intro he; have := (hown.lt _ he.symm).1; simp at this; omega); have g29 : w9.cell? ⟨bq, oq + j, none⟩ = some (.int .i64 x) := (grown_drewW hgrow9).cell ((World.cell?_alloc_lt wr _ _ (by show bq < wr.heap.size; omega)).trans g2) (by intro he; have := (hown.lt _ he.symm).1; simp at this; omega)) | fail))
                have hb4 := (hb3.alloc hsz3 _).grown (grown_drewW hgrow9) (by simp; omega) (fun g hg => (hown.lt g hg).1)
                have K := Lib.hid (And.intro hown9 hb4)
                clear hown9 hgrow9 hb4 hat hlt9 g19 g29
                go_wp2_with fail
                go_roundw
                case rel => exact ⟨j + 1, _, cap, HJ1.out, by go_num, rfl, by rw [HT.out, HB.out, List.map_append]; exact K.out.1, K.out.2⟩
                case measure => simp [intOf]; have := HJ1.out; omega
            · obtain rfl : j = q.xs.length := by omega
              have hch : (child q.xs ((u : Int) + 1)).length = q.xs.length + 1 := by simp [child]
              have hszr := hb3.size
              have HO3 := Lib.hid hO2
              clear hRr hj
              go_wp2_with (at_builtin; refine wpList_append_own _ rfl _ _ 22 rfl (wo.heap.size) 3 i0 (.int .i64 0) 1 8 Try.underlying22 hi hz0 hz1 hz2 rfl (by decide) _ _ _ rfl (World.ownsRow.alloc hown _) ⟨wr.heap.size, 0, none⟩ 1 1 [.int .i64 ((u : Int) + 1)] rfl rfl (cell_one_new _ _ _) (by intro u hu; simp at hu; subst hu; rfl) (by unfold maxLen; omega) (by omega) (by simp; omega) ?_; intro v7 w7 hown7 hgrow7 _)
              have hrow : w7.ownsRow wo.heap.size 3 1 v7 (q.xs.length + 1) ((child q.xs ((u : Int) + 1)).map (Value.int .i64)) := by simpa [child, List.take_of_length_le] using hown7
              have hb4 := (hb3.alloc hszr _).grown hgrow7 (by simp; omega) (fun g hg => (hown.lt g hg).1)
              obtain ⟨A4, c4, rfl, _, _⟩ := own_shape hrow
              have hrow2 : w7.ownsRow wo.heap.size 3 1 (Row.v ⟨A4, c4, child q.xs ((u : Int) + 1)⟩) (child q.xs ((u : Int) + 1)).length ((child q.xs ((u : Int) + 1)).map (Value.int .i64)) := by rw [hch]; simpa [Row.v, hch] using hrow
              have HR := Lib.hid hrow2
              have hin : In w7 A4 c4 (child q.xs ((u : Int) + 1)) := In.own (by rw [hch]; exact hrow) (by omega)
              have hbw4 := hb2.trans (hb4.mono hszo)
              have HCH := Lib.hid hch
              have hc8 : (child q.xs ((u : Int) + 1)).length ≤ 8 := by omega
              have hvv : Value.slice A4 (child q.xs ((u : Int) + 1)).length c4 = Value.slice A4 (q.xs.length + 1) c4 := by rw [hch]
              clear hown hb3 hrow hrow2 hown7 hgrow7 hch
              go_wp2_with fail
              by_cases hV : avoidB (qs.map Row.xs) (child q.xs ((u : Int) + 1)) = true
              · have HE2 := Lib.hid (show nxTo (qs.map Row.xs) q.xs (u + 1) = nxTo (qs.map Row.xs) q.xs u ++ [child q.xs ((u : Int) + 1)] by rw [HNS.out, if_pos hV])
                have ct := l12Avoids_b A A4 c c4 qs (child q.xs ((u : Int) + 1)) w7 true (h.next hbw4) hin hc8 hr8 hV
                rw [hvv] at ct
                (with_reducible refine ct.mono ?_)
                clear ct
                rintro e w8 ⟨rfl, hb8⟩
                have hsz4 := hb4.size
                have hb48 := hb4.trans (hb8.mono hsz4)
                have hbw8 := hbw4.trans (hb8.mono hbw4.size)
                have hsz8 := hb48.size
                have hO4 := (HO3.out.below hb48).add (own_below HR.out hb8) hsz8 hszo
                have hown2 := hO4.outN (n := rs2.length) (by simp)
                clear hV hvv hin hb4 hO2
                go_wp2_with (at_builtin; refine wpList_append_own _ rfl _ _ 33 rfl (w.heap.size) 22 j0 (.slice none 0 0) 1 24 Try.underlying33 hj hy0 hy1 hy2 rfl (by decide) _ _ _ rfl (World.ownsRow.alloc hown2 _) ⟨w8.heap.size, 0, none⟩ 1 1 [Value.slice A4 (q.xs.length + 1) c4] rfl rfl (cell_one_at _ _ (by simp)) (by intro u hu; simp at hu; subst hu; rfl) (by unfold maxLen; omega) (by omega) (by simp; omega) ?_; intro v9 w9 hown9 hgrow9 _)
                obtain ⟨A5, c5, rfl, hO6, hg3⟩ := hO4.grow (Nat.le_refl _) (by simp) hown9 hgrow9
                have hbw9 := hbw8.grown hg3 (by omega) (fun g hg => (hO4.olim (by simp) g hg).1)
                have K := Lib.hid (And.intro hO6 hbw9)
                clear hO6 hbw9 hown9 hgrow9 hg3 hO4 hown2 hbw8 hb48 hb8 hbw4
                go_wp2_with fail
                go_roundw
                case rel => exact ⟨u + 1, A5, c5, rs2 ++ [⟨A4, c4, child q.xs ((u : Int) + 1)⟩], by omega, by go_num, by rw [List.length_append]; rfl, Lib.hid (by rw [HE2.out, List.map_append, HX2.out]; simp), by simpa [Row.v, HCH.out] using K.out.1, K.out.2⟩
                case measure => simp [intOf]; omega
              · have hVf : avoidB (qs.map Row.xs) (child q.xs ((u : Int) + 1)) = false := by simpa using hV
                have HE2 := Lib.hid (show nxTo (qs.map Row.xs) q.xs (u + 1) = nxTo (qs.map Row.xs) q.xs u by rw [HNS.out, if_neg hV])
                have ct := l12Avoids_b A A4 c c4 qs (child q.xs ((u : Int) + 1)) w7 false (h.next hbw4) hin hc8 hr8 hVf
                rw [hvv] at ct
                (with_reducible refine ct.mono ?_)
                clear ct
                rintro e w8 ⟨rfl, hb8⟩
                have hsz4 := hb4.size
                have hb48 := hb4.trans (hb8.mono hsz4)
                have hbw8 := hbw4.trans (hb8.mono hbw4.size)
                have hsz8 := hb48.size
                have K := Lib.hid (And.intro ((HO3.out.below hb48).wider (Nat.le_refl _) hsz8) hbw8)
                clear hV hVf hvv hin hb4 hO2 hbw8 hb48 hb8 hbw4
                go_wp2_with fail
                go_roundw
                case rel => exact ⟨u + 1, A2, c2, rs2, by omega, by go_num, rfl, Lib.hid (by rw [HE2.out, HX2.out]), K.out.1, K.out.2⟩
                case measure => simp [intOf]; omega
        · obtain rfl : u = n := by omega
          have HE := Lib.hid (show rs2.map Row.xs = nextL (qs.map Row.xs) ((ls.map Row.xs).take (k + 1)) u by rw [HX2.out, HNX.out])
          go_wp2_with fail
          go_roundw
          case rel => exact ⟨k + 1, A2, c2, rs2, by omega, by go_num, rfl, HE, hO2, hb2⟩
          case measure => simp [intOf]; omega
    · obtain rfl : k = ls.length := by omega
      have HE := Lib.hid (show rs.map Row.xs = nextL (qs.map Row.xs) (ls.map Row.xs) n by rw [HX.out, List.take_of_length_le (by simp)])
      go_wp2_with fail
      go_ret
      exact ⟨A1, c1, rs, rfl, HE.out, hO, hb⟩
theorem infoLL : (Try.prog.info? 33).map (fun i => (i.zero, i.size, i.bytes)) = some (some (.slice none 0 0), 1, 24) := by kernel_rfl
/-- The cells tell each length's count. -/
def LensV (X : List (List Int)) (ts : List Value) (k : Nat) : Prop := ts.length = k ∧ ∀ j (h : j < ts.length), ∃ A c, ts[j] = .slice A (lastL X j).length c
theorem LensV.snoc {X : List (List Int)} {ts : List Value} {k : Nat} (h : LensV X ts k) (A : Option Addr) (c n : Nat) (hn : n = (lastL X k).length) : LensV X (ts ++ [.slice A n c]) (k + 1) := by
  refine ⟨by simp [h.1], fun j hj => ?_⟩
  rcases Nat.lt_or_ge j ts.length with h1 | h1
  · rw [List.getElem_append_left h1]; exact h.2 j h1
  · have : j = ts.length := by simp at hj; omega
    subst this
    refine ⟨A, c, ?_⟩
    simp [hn, h.1]
theorem lastL_bnd {X : List (List Int)} (hB : basisB X = true) {k : Nat} (hk : k ≤ 5) : (lastL X k).length ≤ 46656 ∧ ∀ q ∈ lastL X k, q.length ≤ 5 ∧ ∀ x ∈ q, 1 ≤ x ∧ x ≤ 8 := by
  refine ⟨by rw [lastL_len hB (by omega)]; exact clsL_le (by omega), fun q hq => ?_⟩
  have h1 := (lastL_mem hB k (by omega) q).1 hq
  unfold clsL at h1
  have h2 := permsI_mem (List.mem_filter.1 h1).1
  refine ⟨by omega, fun x hx => ?_⟩
  have := h2.2.1 x hx
  omega
set_option maxHeartbeats 2000000 in
theorem l12Class_any (A : Option Addr) (c : Nat) (qs : List Row) (n : Nat) (w : World) (h : InL w A c qs) (hB : basisB (qs.map Row.xs) = true) (hn : n ≤ 6) :
    Calls Try.prog 81 #[.slice A qs.length c, .int .i64 n] w fun e w' => ∃ A1 c1 ts, e = .returned (.slice A1 (n + 1) c1) ∧ LensV (qs.map Row.xs) ts (n + 1) ∧
      w'.ownsRow w.heap.size 33 1 (.slice A1 (n + 1) c1) (n + 1) ts ∧ Below w.heap.size w w' := by
  obtain ⟨k0, hk, hx0, hx1, hx2⟩ := info_parts infoLL
  have hr8 := rows_8 (basis_perm hB)
  have HBa := Lib.hid hB
  clear hB
  have hr0 : (w.alloc (.cells #[] 3)).ownsRow w.heap.size 3 1 (.slice (some ⟨w.heap.size, 0, none⟩) 0 0) 0 (([] : List Int).map (Value.int .i64)) := World.ownsRow_lit w #[] 0 (Nat.le_refl _) (by unfold maxLen; omega) rfl
  have hO0 : Own (w.alloc (.cells #[] 3)) w.heap.size (w.heap.size + 1) [⟨some ⟨w.heap.size, 0, none⟩, 0, []⟩] [] := Own.one hr0 (by simp)
  have hw1 : (w.alloc (.cells #[] 3)).heap.size = w.heap.size + 1 := by simp
  have hx1' : ((w.alloc (.cells #[] 3)).alloc (.cells #[Value.slice (some ⟨w.heap.size, 0, none⟩) 0 0] 22)).ownsRow w.heap.size 22 1 (.slice (some ⟨w.heap.size + 1, 0, none⟩) 1 1) 1 [Value.slice (some ⟨w.heap.size, 0, none⟩) 0 0] := by
    have := World.ownsRow_lit (base := w.heap.size) (e := 22) (size := 1) (w.alloc (.cells #[] 3)) #[Value.slice (some ⟨w.heap.size, 0, none⟩) 0 0] 1 (by simp) (by unfold maxLen; omega) rfl
    rw [hw1] at this
    exact this
  have hO1 : Own ((w.alloc (.cells #[] 3)).alloc (.cells #[Value.slice (some ⟨w.heap.size, 0, none⟩) 0 0] 22)) w.heap.size (w.heap.size + 2) [⟨some ⟨w.heap.size, 0, none⟩, 0, []⟩] [⟨some ⟨w.heap.size + 1, 0, none⟩, 1, [Value.slice (some ⟨w.heap.size, 0, none⟩) 0 0]⟩] :=
    Own.with_ ((hO0.below ((Below.refl _ _).alloc (Nat.le_refl _) _)).wider (Nat.le_refl _) (by omega)) hx1' (by simp)
  have hR0 : Read (((w.alloc (.cells #[] 3)).alloc (.cells #[Value.slice (some ⟨w.heap.size, 0, none⟩) 0 0] 22)).alloc (.cells #[Value.slice (some ⟨w.heap.size + 1, 0, none⟩) 1 1] 33)) (w.heap.size + 3) [⟨some ⟨w.heap.size, 0, none⟩, 0, []⟩] [⟨some ⟨w.heap.size + 1, 0, none⟩, 1, [Value.slice (some ⟨w.heap.size, 0, none⟩) 0 0]⟩] :=
    ((hO1.below ((Below.refl _ _).alloc (Nat.le_refl _) _)).wider (Nat.le_refl _) (by omega)).read
  have hown0 : (((w.alloc (.cells #[] 3)).alloc (.cells #[Value.slice (some ⟨w.heap.size, 0, none⟩) 0 0] 22)).alloc (.cells #[Value.slice (some ⟨w.heap.size + 1, 0, none⟩) 1 1] 33)).ownsRow w.heap.size 33 1 (.slice (some ⟨w.heap.size + 2, 0, none⟩) 1 1) 1 [Value.slice (some ⟨w.heap.size + 1, 0, none⟩) 1 1] := by
    have := World.ownsRow_lit (base := w.heap.size) (e := 33) (size := 1) ((w.alloc (.cells #[] 3)).alloc (.cells #[Value.slice (some ⟨w.heap.size, 0, none⟩) 0 0] 22)) #[Value.slice (some ⟨w.heap.size + 1, 0, none⟩) 1 1] 1 (by simp; omega) (by unfold maxLen; omega) rfl
    have hw2 : ((w.alloc (.cells #[] 3)).alloc (.cells #[Value.slice (some ⟨w.heap.size, 0, none⟩) 0 0] 22)).heap.size = w.heap.size + 2 := by simp
    rw [hw2] at this
    exact this
  have hb0 := (((Below.refl w.heap.size w).alloc (Nat.le_refl _) (.cells #[] 3)).alloc (by simp) (.cells #[Value.slice (some ⟨w.heap.size, 0, none⟩) 0 0] 22)).alloc (by simp; omega) (.cells #[Value.slice (some ⟨w.heap.size + 1, 0, none⟩) 1 1] 33)
  have HL0 : Hid (LensV (qs.map Row.xs) [Value.slice (some ⟨w.heap.size + 1, 0, none⟩) 1 1] (0 + 1)) := Lib.hid ⟨rfl, fun j hj => by
    obtain rfl : j = 0 := by simp at hj; omega
    exact ⟨_, _, rfl⟩⟩
  clear hr0 hO0 hw1 hx1' hO1
  go_enter Try.func81, Try.ntmps81
  go_wp2_with fail
  go_loopw [5, 6, 7] (fun cu v i wr => ∃ (u : Nat) (A1 : Option Addr) (c1 : Nat) (rs : List Row) (A2 : Option Addr) (c2 : Nat) (ts : List Value), u ≤ n ∧ i = .int .i64 ((u : Int) + 1) ∧ cu = .slice A1 rs.length c1 ∧ v = .slice A2 (u + 1) c2 ∧ Hid (rs.map Row.xs = lastL (qs.map Row.xs) u) ∧ Read wr wr.heap.size rs [⟨A1, c1, rs.map Row.v⟩] ∧ Hid (LensV (qs.map Row.xs) ts (u + 1)) ∧ wr.ownsRow w.heap.size 33 1 (.slice A2 (u + 1) c2) (u + 1) ts ∧ Below w.heap.size w wr) (fun _ _ i _ => n + 1 - (intOf i).toNat)
  case atStart => exact ⟨0, _, _, [⟨some ⟨w.heap.size, 0, none⟩, 0, []⟩], _, _, _, Nat.zero_le _, rfl, rfl, rfl, Lib.hid rfl, hR0.more (by simp), HL0, hown0, hb0⟩
  case round =>
    clear hR0 hown0 hb0 HL0
    obtain ⟨u, A1, c1, rs, A2, c2, ts, hu, rfl, rfl, rfl, HX, hR, HL, hown, hb⟩ := hrel
    rcases Nat.lt_or_ge u n with hlt | hge
    · have hun : (u : Int) + 1 ≤ (n : Int) := by omega
      have hbn := lastL_bnd HBa.out (k := u) (by omega)
      have hll : rs.length ≤ 46656 := by have := congrArg List.length HX.out; rw [List.length_map] at this; omega
      have hl5 : ∀ r ∈ rs, r.xs.length ≤ 5 ∧ ∀ x ∈ r.xs, 1 ≤ x ∧ x ≤ 8 := fun r hr => hbn.2 r.xs (by rw [← HX.out]; exact List.mem_map_of_mem hr)
      have ct := l12Next_any A c qs A1 c1 (u + 1) rs wr (h.next hb) hr8 (by omega) hR hll hl5
      have hcast : ((u + 1 : Nat) : Int) = (u : Int) + 1 := by omega
      rw [hcast] at ct
      have HN := Lib.hid (show nextL (qs.map Row.xs) (rs.map Row.xs) (u + 1) = lastL (qs.map Row.xs) (u + 1) by rw [HX.out]; rfl)
      clear hbn hll hl5 hR hcast
      go_wp2_with fail
      (with_reducible refine ct.mono ?_)
      clear ct
      rintro e w2 ⟨A3, c3, rs3, rfl, hX3, hO3, hb2⟩
      have HX3 := Lib.hid (hX3.trans HN.out)
      have hn3 := Lib.hid (show rs3.length = (lastL (qs.map Row.xs) (u + 1)).length by rw [← HX3.out, List.length_map])
      have hown2 := own_below hown hb2
      have hlim := fun g hg => (hown.lt g hg).2
      have hbw := hb.trans (hb2.mono hb.size)
      have hszw := hbw.size
      clear hX3 hown hb2
      go_wp2_with (at_builtin; refine wpList_append_own _ rfl _ _ 67 rfl (w.heap.size) 33 k0 (.slice none 0 0) 1 24 Try.underlying67 hk hx0 hx1 hx2 rfl (by decide) _ _ _ rfl (World.ownsRow.alloc hown2 _) ⟨w2.heap.size, 0, none⟩ 1 1 [Value.slice A3 rs3.length c3] rfl rfl (cell_one_at _ _ (by simp)) (by intro u hu; simp at hu; subst hu; rfl) (by unfold maxLen; omega) (by omega) (by simp; omega) ?_; intro v7 w7 hown7 hgrow7 _)
      have hg1 := grown_trans (World.grownBy_alloc w2 (Obj.cells #[Value.slice A3 rs3.length c3] 33) _) hgrow7
      have hO4 := hO3.span (Span.of_grown (lo := 0) (hi := wr.heap.size) hg1 (fun g hg => ⟨Nat.zero_le _, hlim g hg⟩)) (.inr (Nat.le_refl _))
      have hb4 := hbw.grown hg1 hszw (fun g hg => (hown2.lt g hg).1)
      have hsz4 := hg1.size
      have hR4 := (hO4.wider (Nat.le_refl _) hsz4).read
      obtain ⟨A5, c5, rfl, _, _⟩ := own_shape hown7
      have K := Lib.hid (And.intro hown7 hb4)
      have HL2 := Lib.hid (HL.out.snoc A3 c3 rs3.length hn3.out)
      clear hown7 hgrow7 hg1 hO4 hb4 hO3 hown2 hlim
      go_wp2_with fail
      go_roundw
      case rel => exact ⟨u + 1, A3, c3, rs3, A5, c5, _, by omega, by go_num, rfl, rfl, HX3, hR4, HL2, K.out.1, K.out.2⟩
      case measure => simp [intOf]; omega
    · obtain rfl : u = n := by omega
      go_wp2_with fail
      go_ret
      exact ⟨A2, c2, ts, rfl, HL.out, hown, hb⟩
theorem own_neT {w : World} {b1 b2 e1 e2 n1 n2 : Nat} {v1 v2 : Value} {x1 x2 : List Value} (h1 : w.ownsRow b1 e1 1 v1 n1 x1) (h2 : w.ownsRow b2 e2 1 v2 n2 x2) (he : e1 ≠ e2) : v1.ownBlock = none ∨ v1.ownBlock ≠ v2.ownBlock := by
  rcases h1.2 with ⟨e, _⟩ | ⟨g1, c1, cur1, e1', _, hh1, _⟩
  · exact .inl (by rw [e]; rfl)
  · refine .inr fun h => ?_
    rcases h2.2 with ⟨e, _⟩ | ⟨g2, c2, cur2, e2', _, hh2, _⟩
    · rw [e, e1'] at h; cases h
    · rw [e1', e2'] at h
      injection h with h
      simp only at h
      subst h
      rw [hh1] at hh2
      injection hh2 with hh2
      injection hh2 with _ ht _
      exact he ht
set_option maxHeartbeats 2000000 in
theorem classCounts_spec (A : Option Addr) (c : Nat) (qs : List Row) (n : Int) (_ : -9223372036854775808 ≤ n ∧ n ≤ 9223372036854775807) (w : World) (h : InL w A c qs) :
    Calls Try.prog 40 #[.slice A qs.length c, .int .i64 n] w (Ret (Value.int .i64) 3 w (ccG (qs.map Row.xs) n)) := by
  obtain ⟨i0, hi, hz0, hz1, hz2⟩ := info_parts infoI
  have hown0 : (w.alloc (.cells #[] 3)).ownsRow w.heap.size 3 1 (.slice (some ⟨w.heap.size, 0, none⟩) 0 0) 0 ((cntsTo (fun k => (lastL (qs.map Row.xs) k).length) 0).map (Value.int .i64)) := World.ownsRow_lit w #[] 0 (Nat.le_refl _) (by unfold maxLen; omega) rfl
  have hb0 := (Below.refl w.heap.size w).alloc (Nat.le_refl _) (.cells #[] 3)
  by_cases hB : basisB (qs.map Row.xs) = true
  · have H1 := Lib.hid hB
    clear hB
    go_enter Try.func40, Try.ntmps40
    go_wp2_with fail
    generalize (w.alloc (Obj.cells #[] 3)) = w0 at hown0 hb0 ⊢
    (with_reducible refine (basis_sb A c qs w0 true (h.next hb0) H1.out).mono ?_)
    rintro e w1 ⟨rfl, hb1⟩
    have hbw := hb0.trans (hb1.mono hb0.size)
    have hown1 := own_below hown0 hb1
    go_wp2_with fail
    by_cases h6 : sixB n = true
    · have h6' : 0 ≤ n ∧ n ≤ 6 := by simpa [sixB] using h6
      (with_reducible refine (l1In_b n 0 6 w1 true (decide_eq_true h6')).mono ?_)
      rintro e w' ⟨rfl, rfl⟩
      obtain ⟨m, rfl⟩ := Int.eq_ofNat_of_zero_le h6'.1
      have hm : m ≤ 6 := by omega
      have HG := Lib.hid (show ccG (qs.map Row.xs) m = cntsTo (fun k => (lastL (qs.map Row.xs) k).length) (m + 1) by
        unfold ccG; rw [if_pos ⟨H1.out, h6⟩]
        refine List.map_congr_left fun k hk => ?_
        have hk' : k ≤ m := by simp at hk; omega
        show ((clsL (qs.map Row.xs) k).length : Int) = ((lastL (qs.map Row.xs) k).length : Int)
        rw [lastL_len H1.out (by omega)])
      clear h6 h6'
      go_wp2_with fail
      (with_reducible refine (l12Class_any A c qs m w1 (h.next hbw) H1.out hm).mono ?_)
      rintro e w2 ⟨A1, c1, ts, rfl, hts, hall, hb2⟩
      have hszw := hbw.size
      have hall2 := own_mono hall hszw
      have hown2 := own_below hown1 hb2
      have hbw2 := hbw.trans (hb2.mono hszw)
      have HTS := Lib.hid hts
      clear hts hall hown1 hb2 hown0 hb0 hb1
      go_wp2_with fail
      go_loopw [5, 7] (fun v i wr => ∃ (k : Nat) (A2 : Option Addr) (c2 : Nat), k ≤ m + 1 ∧ i = .int .i64 k ∧ v = .slice A2 k c2 ∧ wr.ownsRow w.heap.size 3 1 (.slice A2 k c2) k ((cntsTo (fun k => (lastL (qs.map Row.xs) k).length) k).map (Value.int .i64)) ∧ wr.ownsRow w.heap.size 33 1 (.slice A1 (m + 1) c1) (m + 1) ts ∧ Below w.heap.size w wr) (fun _ i _ => m + 1 - (intOf i).toNat)
      case atStart => exact ⟨0, _, _, Nat.zero_le _, rfl, rfl, hown2, hall2, hbw2⟩
      case round =>
        clear hown2 hall2 hbw2
        obtain ⟨k, A2, c2, hk, rfl, rfl, hown, hall, hb⟩ := hrel
        rcases Nat.lt_or_ge k (m + 1) with hlt | hge
        · have HS := Lib.hid (cntsTo_succ (fun k => (lastL (qs.map Row.xs) k).length) k)
          have hsz := hb.size
          obtain ⟨B, d, hBd⟩ := HTS.out.2 k (by rw [HTS.out.1]; exact hlt)
          have hrd : Rd id wr wr.heap.size A1 ts := Rd.of_own (f := id) (e := 33) (c := c1) (by rw [List.map_id, HTS.out.1]; exact hall)
          obtain ⟨bt, ot, rfl, hbt, hct⟩ := hrd (by rw [HTS.out.1]; omega)
          have g1 : wr.cell? ⟨bt, ot + k, none⟩ = some (Value.slice B (lastL (qs.map Row.xs) k).length d) := by rw [hct k (by rw [HTS.out.1]; exact hlt)]; exact congrArg some hBd
          obtain ⟨z, hz⟩ : ∃ z : Nat, z = (lastL (qs.map Row.xs) k).length := ⟨_, rfl⟩
          have HZ := Lib.hid hz
          rw [← hz] at g1
          have hkm : (k : Int) < (m : Int) + 1 := by omega
          clear hz hct hrd hBd
          go_wp2_with (at_builtin; refine wpList_append_own _ rfl _ _ 22 rfl (w.heap.size) 3 i0 (.int .i64 0) 1 8 Try.underlying22 hi hz0 hz1 hz2 rfl (by decide) _ _ _ rfl (World.ownsRow.alloc hown _) ⟨wr.heap.size, 0, none⟩ 1 1 [.int .i64 ((z : Int))] rfl rfl (cell_one_new _ _ _) (by intro u hu; simp at hu; subst hu; rfl) (by unfold maxLen; omega) (by omega) (by simp; omega) ?_; intro v7 w7 hown7 hgrow7 _)
          have hS2 : w7.ownsRow w.heap.size 3 1 v7 (k + 1) ((cntsTo (fun k => (lastL (qs.map Row.xs) k).length) (k + 1)).map (Value.int .i64)) := by rw [HS.out, ← HZ.out]; simpa using hown7
          have hg1 := grown_trans (World.grownBy_alloc wr _ _) hgrow7
          have hb3 := hb.grown hg1 hsz (fun g hg => (hown.lt g hg).1)
          have hall3 := hall.kept hg1 (own_neT hall hown (by decide))
          obtain ⟨A3, c3, rfl, _, _⟩ := own_shape hS2
          have K := Lib.hid (And.intro hS2 (And.intro hall3 hb3))
          clear hS2 hown7 hgrow7 hb3 hown hall3 hg1
          go_wp2_with fail
          go_roundw
          case rel => exact ⟨k + 1, A3, c3, by omega, by go_num, rfl, K.out.1, K.out.2.1, K.out.2.2⟩
          case measure => simp [intOf]; omega
        · obtain rfl : k = m + 1 := by omega
          have HL := Lib.hid (cntsTo_length (fun k => (lastL (qs.map Row.xs) k).length) (m + 1))
          go_wp2_with fail
          go_ret
          rw [HG.out]
          exact ⟨A2, c2, by rw [HL.out]; rfl, by rw [HL.out]; exact (own_caps hown).1, (own_caps hown).2, by rw [HL.out]; exact hown, hb⟩
    · have h6f : sixB n = false := by simpa using h6
      have HG := Lib.hid (show ccG (qs.map Row.xs) n = [] by unfold ccG; rw [if_neg]; exact fun h => h6 h.2)
      (with_reducible refine (l1In_b n 0 6 w1 false (decide_eq_false (fun hh => absurd (by simpa [sixB] using hh) h6))).mono ?_)
      rintro e w' ⟨rfl, rfl⟩
      clear h6 h6f
      go_wp2_with fail
      go_ret
      rw [HG.out]
      exact ⟨_, _, rfl, Nat.le_refl _, by unfold maxLen; omega, hown1, hbw⟩
  · have hBf : basisB (qs.map Row.xs) = false := by simpa using hB
    have H1 := Lib.hid hBf
    have HG := Lib.hid (show ccG (qs.map Row.xs) n = [] by unfold ccG; rw [if_neg]; exact fun h => hB h.1)
    clear hB hBf
    go_enter Try.func40, Try.ntmps40
    go_wp2_with fail
    generalize (w.alloc (Obj.cells #[] 3)) = w0 at hown0 hb0 ⊢
    (with_reducible refine (basis_sb A c qs w0 false (h.next hb0) H1.out).mono ?_)
    rintro e w1 ⟨rfl, hb1⟩
    go_wp2_with fail
    go_ret
    rw [HG.out]
    exact ⟨_, _, rfl, Nat.le_refl _, by unfold maxLen; omega, own_below hown0 hb1, hb0.trans (hb1.mono hb0.size)⟩
end Go.Proofs.Ytmkaelefljjamaa
