/- Several texts in one, each with its own head: G9, D4, D15, Y1, Q3, Y2. No program of ours. -/
import Derived.Deep.RegionHeld3
import Derived.Deep.AppendLies
import Derived.Lib.SliceRun
import Derived.Test.YtodloeonlaljpaaGreatShelf
import Derived.Lib.OwnBridge
import Derived.Test.YtodloeonlaljpaaGreatShelfF
import Derived.Shelf.SlSortCmp.NoneTotal
import Derived.Test.YtodloeonlaljpaaGreatMMeets6
/- ClassCounts, program and reference. -/
namespace Go.Proofs.YtodloeonlaljpaaGreat
set_option maxRecDepth 100000
open Go Go.RowKit

def ccG (X : List (List Int)) (n : Int) : List Int := if basisB X = true ∧ sixB n = true then (List.range (n.toNat + 1)).map fun k => ((clsL X k).length : Int) else []
theorem ccG_le (X : List (List Int)) (n : Int) : (ccG X n).length ≤ 1048576 := by
  unfold ccG
  by_cases h : basisB X = true ∧ sixB n = true
  · rw [if_pos h]
    have h6 : 0 ≤ n ∧ n ≤ 6 := by simpa [sixB] using h.2
    simp
    omega
  · rw [if_neg h]; simp
def cntsTo (F : Nat → Nat) (k : Nat) : List Int := (List.range k).map fun j => (F j : Int)
theorem cntsTo_succ (F : Nat → Nat) (k : Nat) : cntsTo F (k + 1) = cntsTo F k ++ [(F k : Int)] := by simp [cntsTo, List.range_succ]
theorem cntsTo_length (F : Nat → Nat) (k : Nat) : (cntsTo F k).length = k := by simp [cntsTo]

theorem grown_drewW {w w' : World} {row : Option Nat} (h : w.drew.grownBy w' row) : w.grownBy w' row := ⟨h.os, h.tape, h.output, h.size, h.block⟩


def nxTo (X : List (List Int)) (q : List Int) (u : Nat) : List (List Int) := ((nums u).map (child q)).filter (avoidB X)
theorem nxTo_succ (X : List (List Int)) (q : List Int) (u : Nat) : nxTo X q (u + 1) = if avoidB X (child q ((u : Int) + 1)) = true then nxTo X q u ++ [child q ((u : Int) + 1)] else nxTo X q u := by
  unfold nxTo
  rw [nums_succ, List.map_append, List.filter_append]
  by_cases h : avoidB X (child q ((u : Int) + 1)) = true <;> simp [h]
theorem nxTo_le (X : List (List Int)) (q : List Int) (u : Nat) : (nxTo X q u).length ≤ u := by
  unfold nxTo
  have := List.length_filter_le (avoidB X) ((nums u).map (child q))
  rw [List.length_map, nums_length] at this
  exact this
theorem nextL_take_le (X L : List (List Int)) (n k : Nat) : (nextL X (L.take k) n).length ≤ L.length * n := by
  have h1 := flatMap_le (fun q => ((nums n).map (child q)).filter (avoidB X)) n (L.take k) (fun q _ => nxTo_le X q n)
  have h2 : (L.take k).length ≤ L.length := by simp; omega
  exact Nat.le_trans h1 (Nat.mul_le_mul_right n h2)
theorem nextL_succ (X L : List (List Int)) (n k : Nat) (h : k < L.length) : nextL X (L.take (k + 1)) n = nextL X (L.take k) n ++ nxTo X L[k] n := by
  unfold nextL
  rw [flatMap_take _ _ _ h]; rfl
set_option maxHeartbeats 8000000 in
theorem l12Next_any (A : Option Addr) (c : Nat) (qs : List Row) (B : Option Addr) (d n : Nat) (ls : List Row) (w : World) (h : InL w A c qs) (hr8 : ∀ r ∈ qs, r.xs.length ≤ 8) (hn : n ≤ 6)
    (hR : Read w w.heap.size ls [⟨B, d, ls.map Row.v⟩]) (hll : ls.length ≤ 46656) (hl5 : ∀ r ∈ ls, r.xs.length ≤ 5 ∧ ∀ x ∈ r.xs, 1 ≤ x ∧ x ≤ 8) :
    Calls Tryz.prog 105 #[.slice A qs.length c, .slice B ls.length d, .int .i64 n] w (RetL w (nextL (qs.map Row.xs) (ls.map Row.xs) n)) := by
  obtain ⟨i0, hi, hz0, hz1, hz2⟩ := info_parts infoI
  obtain ⟨j0, hj, hy0, hy1, hy2⟩ := info_parts infoL
  have hlit := Own.lit (lo := w.heap.size) w (Nat.le_refl _)
  have hb0 := (Below.refl w.heap.size w).alloc (Nat.le_refl _) (.cells #[] 36)
  go_enter Tryz.func105, Tryz.ntmps105
  go_wp2_with fail
  go_loopw [7, 8] (fun v i wr => ∃ (k : Nat) (A1 : Option Addr) (c1 : Nat) (rs : List Row), k ≤ ls.length ∧ i = .int .i64 k ∧ v = .slice A1 rs.length c1 ∧ Hid (rs.map Row.xs = nextL (qs.map Row.xs) ((ls.map Row.xs).take k) n) ∧ Own wr w.heap.size wr.heap.size rs [⟨A1, c1, rs.map Row.v⟩] ∧ Below w.heap.size w wr) (fun _ i _ => ls.length - (intOf i).toNat)
  case atStart => exact ⟨0, _, _, [], Nat.zero_le _, rfl, rfl, Lib.hid rfl, hlit, hb0⟩
  case round =>
    clear hlit hb0
    obtain ⟨k, A1, c1, rs, hk, rfl, rfl, HX, hO, hb⟩ := hrel
    rcases Nat.lt_or_ge k ls.length with hlt | hge
    · have hq5 := hl5 ls[k] (List.getElem_mem hlt)
      obtain ⟨q, hqe⟩ : ∃ q : Row, q = ls[k] := ⟨_, rfl⟩
      have HQ := Lib.hid hqe
      rw [← hqe] at hq5
      obtain ⟨hq5, hqv⟩ := hq5
      have HNX := Lib.hid (show nextL (qs.map Row.xs) ((ls.map Row.xs).take (k + 1)) n = nextL (qs.map Row.xs) ((ls.map Row.xs).take k) n ++ nxTo (qs.map Row.xs) q.xs n by
        rw [nextL_succ _ _ _ _ (by simpa using hlt)]; simp [hqe])
      clear hqe
      go_wp2_with fail
      go_loopw [7, 9] (fun v i wr => ∃ (u : Nat) (A2 : Option Addr) (c2 : Nat) (rs2 : List Row), u ≤ n ∧ i = .int .i64 ((u : Int) + 1) ∧ v = .slice A2 rs2.length c2 ∧ Hid (rs2.map Row.xs = nextL (qs.map Row.xs) ((ls.map Row.xs).take k) n ++ nxTo (qs.map Row.xs) q.xs u) ∧ Own wr w.heap.size wr.heap.size rs2 [⟨A2, c2, rs2.map Row.v⟩] ∧ Below w.heap.size w wr) (fun _ i _ => n + 1 - (intOf i).toNat)
      case atStart => exact ⟨0, _, _, rs, Nat.zero_le _, rfl, rfl, Lib.hid (by rw [HX.out]; simp [nxTo, nums]), hO, hb⟩
      case round =>
        clear hO hb HX
        obtain ⟨u, A2, c2, rs2, hu, rfl, rfl, HX2, hO2, hb2⟩ := hrel
        have hcnt : rs2.length ≤ 46656 * 6 + 6 := by
          have h1 := congrArg List.length HX2.out
          have h2 := nextL_take_le (qs.map Row.xs) (ls.map Row.xs) n k
          have h3 := nxTo_le (qs.map Row.xs) q.xs u
          rw [List.length_append, List.length_map] at h1
          rw [List.length_map] at h2
          have h4 := Nat.mul_le_mul hll hn
          omega
        rcases Nat.lt_or_ge u n with hlt2 | hge2
        · obtain ⟨wo, rfl⟩ : ∃ wo : World, wo = wr := ⟨_, rfl⟩
          have hown0 : (wo.alloc (.cells #[] 3)).ownsRow wo.heap.size 3 1 (.slice (some ⟨wo.heap.size, 0, none⟩) 0 0) 0 (((q.xs.take 0).map (bump ((u : Int) + 1))).map (Value.int .i64)) := World.ownsRow_lit wo #[] 0 (Nat.le_refl _) (by unfold maxLen; omega) rfl
          have hb3 := (Below.refl wo.heap.size wo).alloc (Nat.le_refl _) (.cells #[] 3)
          have hszo := hb2.size
          have HNS := Lib.hid (nxTo_succ (qs.map Row.xs) q.xs u)
          have hun : (u : Int) + 1 ≤ (n : Int) := by omega
          go_wp2_with fail
          go_loopw [10, 11] (fun v i wr => ∃ (i' : Nat) (A3 : Option Addr) (c3 : Nat), i' ≤ q.xs.length ∧ i = .int .i64 i' ∧ v = .slice A3 i' c3 ∧ wr.ownsRow wo.heap.size 3 1 (.slice A3 i' c3) i' (((q.xs.take i').map (bump ((u : Int) + 1))).map (Value.int .i64)) ∧ Below wo.heap.size wo wr) (fun _ i _ => q.xs.length - (intOf i).toNat)
          case atStart => exact ⟨0, _, _, Nat.zero_le _, rfl, rfl, hown0, hb3⟩
          case round =>
            clear hown0 hb3
            obtain ⟨j, A3, c3, hj, rfl, rfl, hown, hb3⟩ := hrel
            have hbw := hb2.trans (hb3.mono hszo)
            have hRr := hR.below hbw
            obtain ⟨bl, ol, rfl, hbl, hcl⟩ := hRr.at (by omega)
            have g1 : wr.cell? ⟨bl, ol + k, none⟩ = some (Value.slice q.A q.xs.length q.c) := by rw [HQ.out]; exact hcl k hlt
            clear hcl
            rcases Nat.lt_or_ge j q.xs.length with hjl | hjg
            · have hrq := hRr.rd q (by rw [HQ.out]; exact List.getElem_mem hlt)
              obtain ⟨bq, oq, hqA, hbq, hcq⟩ := hrq (by omega)
              have g2 := hcq j hjl
              have hvj := hqv q.xs[j] (List.getElem_mem hjl)
              have hsz3 := hb3.size
              have hblo : bl < wo.heap.size := by omega
              have HT := Lib.hid (show (q.xs.take (j + 1)).map (bump ((u : Int) + 1)) = (q.xs.take j).map (bump ((u : Int) + 1)) ++ [bump ((u : Int) + 1) q.xs[j]] by rw [List.take_succ_eq_append_getElem hjl, List.map_append]; rfl)
              rw [hqA] at g1
              have g1d : wr.drew.cell? ⟨bl, ol + k, none⟩ = some (Value.slice (some ⟨bq, oq, none⟩) q.xs.length q.c) := g1
              have g2d : wr.drew.cell? ⟨bq, oq + j, none⟩ = some (.int .i64 q.xs[j]) := g2
              obtain ⟨x, hx⟩ : ∃ x : Int, x = q.xs[j] := ⟨_, rfl⟩
              rw [← hx] at HT g2 g2d hvj
              clear hx hcq
              have hx8 := hvj
              have HJ := Lib.hid hj
              have HQ5 := Lib.hid hq5
              have HJ1 := Lib.hid (Nat.succ_le_of_lt hjl)
              by_cases hge : (u : Int) + 1 ≤ x
              · have HB := Lib.hid (show bump ((u : Int) + 1) x = x + 1 by unfold bump; rw [if_pos hge])
                have hwr : IntKind.i64.wrap (x + 1) = x + 1 := IntWalk.i64_in _ (by omega)
                go_wp2_with fail
                go_region_held3 (fun v => v.cell? ⟨bl, ol + k, none⟩ = some (Value.slice (some ⟨bq, oq, none⟩) q.xs.length q.c) ∧ v.cell? ⟨bq, oq + j, none⟩ = some (.int .i64 x)) (first | exact ⟨g1d, g2d⟩ | exact ⟨(World.cell?_alloc_lt wr _ _ (by show bl < wr.heap.size; omega)).trans g1, (World.cell?_alloc_lt wr _ _ (by show bq < wr.heap.size; omega)).trans g2⟩ | exact ⟨g19, g29⟩) ((first | (go_at_call 42; (with_reducible refine (l1Bit_b true 1 _ rfl).mono ?_); rintro e w' ⟨rfl, rfl⟩) | (refine step_append_lies _ (by rfl) _ _ _ (by rfl) wo.heap.size 3 i0 (.int .i64 0) 1 8 Tryz.underlying36 hi hz0 hz1 hz2 rfl (by decide) (Value.slice A3 j c3) j _ (by rfl) ((World.ownsRow.alloc hown _).drew) ⟨wr.heap.size, 0, none⟩ 1 1 [.int .i64 (x + 1)] (by rfl) (by rfl) (cell_one_new _ _ _) (by intro u hu; simp at hu; subst hu; rfl) (by omega) (by unfold maxLen; omega) (by omega) (by simp; omega) (wr.heap.size + 1) (by simp) ?_; intro gg cap w9 hown9 hgrow9 hat hlt9; have g19 : w9.cell? ⟨bl, ol + k, none⟩ = some (Value.slice (some ⟨bq, oq, none⟩) q.xs.length q.c) := (grown_drewW hgrow9).cell ((World.cell?_alloc_lt wr _ _ (by show bl < wr.heap.size; omega)).trans g1) (by intro he; have := (hown.lt _ he.symm).1; simp at this; omega); have g29 : w9.cell? ⟨bq, oq + j, none⟩ = some (.int .i64 x) := (grown_drewW hgrow9).cell ((World.cell?_alloc_lt wr _ _ (by show bq < wr.heap.size; omega)).trans g2) (by intro he; have := (hown.lt _ he.symm).1; simp at this; omega)) | fail))
                have hb4 := (hb3.alloc hsz3 _).grown (grown_drewW hgrow9) (by simp; omega) (fun g hg => (hown.lt g hg).1)
                have K := Lib.hid (And.intro hown9 hb4)
                clear hown9 hgrow9 hb4 hat hlt9 g19 g29
                go_wp2_with fail
                go_roundw
                case rel => exact ⟨j + 1, _, cap, HJ1.out, by go_num, rfl, by rw [HT.out, HB.out, List.map_append]; exact K.out.1, K.out.2⟩
                case measure => simp [intOf]; have := HJ1.out; omega
              · have HB := Lib.hid (show bump ((u : Int) + 1) x = x by unfold bump; rw [if_neg hge, Int.add_zero])
                have hwr : IntKind.i64.wrap (x + 0) = x := by rw [Int.add_zero]; exact IntWalk.i64_in _ (by omega)
                have hwr2 : IntKind.i64.wrap x = x := IntWalk.i64_in _ (by omega)
                go_wp2_with fail
                go_region_held3 (fun v => v.cell? ⟨bl, ol + k, none⟩ = some (Value.slice (some ⟨bq, oq, none⟩) q.xs.length q.c) ∧ v.cell? ⟨bq, oq + j, none⟩ = some (.int .i64 x)) (first | exact ⟨g1d, g2d⟩ | exact ⟨(World.cell?_alloc_lt wr _ _ (by show bl < wr.heap.size; omega)).trans g1, (World.cell?_alloc_lt wr _ _ (by show bq < wr.heap.size; omega)).trans g2⟩ | exact ⟨g19, g29⟩) ((first | (go_at_call 42; (with_reducible refine (l1Bit_b (decide ((u : Int) + 1 ≤ x)) 0 _ (by rw [if_neg]; simpa using hge)).mono ?_); rintro e w' ⟨rfl, rfl⟩) | (refine step_append_lies _ (by rfl) _ _ _ (by rfl) wo.heap.size 3 i0 (.int .i64 0) 1 8 Tryz.underlying36 hi hz0 hz1 hz2 rfl (by decide) (Value.slice A3 j c3) j _ (by rfl) ((World.ownsRow.alloc hown _).drew) ⟨wr.heap.size, 0, none⟩ 1 1 [.int .i64 (x)] (by rfl) (by rfl) (cell_one_new _ _ _) (by intro u hu; simp at hu; subst hu; rfl) (by omega) (by unfold maxLen; omega) (by omega) (by simp; omega) (wr.heap.size + 1) (by simp) ?_; intro gg cap w9 hown9 hgrow9 hat hlt9; have g19 : w9.cell? ⟨bl, ol + k, none⟩ = some (Value.slice (some ⟨bq, oq, none⟩) q.xs.length q.c) := (grown_drewW hgrow9).cell ((World.cell?_alloc_lt wr _ _ (by show bl < wr.heap.size; omega)).trans g1) (by intro he; have := (hown.lt _ he.symm).1; simp at this; omega); have g29 : w9.cell? ⟨bq, oq + j, none⟩ = some (.int .i64 x) := (grown_drewW hgrow9).cell ((World.cell?_alloc_lt wr _ _ (by show bq < wr.heap.size; omega)).trans g2) (by intro he; have := (hown.lt _ he.symm).1; simp at this; omega)) | fail))
                have hb4 := (hb3.alloc hsz3 _).grown (grown_drewW hgrow9) (by simp; omega) (fun g hg => (hown.lt g hg).1)
                have K := Lib.hid (And.intro hown9 hb4)
                clear hown9 hgrow9 hb4 hat hlt9 g19 g29
                go_wp2_with fail
                go_roundw
                case rel => exact ⟨j + 1, _, cap, HJ1.out, by go_num, rfl, by rw [HT.out, HB.out, List.map_append]; exact K.out.1, K.out.2⟩
                case measure => simp [intOf]; have := HJ1.out; omega
            · obtain rfl : j = q.xs.length := by omega
              have hch : (child q.xs ((u : Int) + 1)).length = q.xs.length + 1 := by simp [child]
              have hszr := hb3.size
              have HO3 := Lib.hid hO2
              clear hRr hj
              go_wp2_with (at_builtin; refine wpList_append_own _ rfl _ _ 36 rfl (wo.heap.size) 3 i0 (.int .i64 0) 1 8 Tryz.underlying36 hi hz0 hz1 hz2 rfl (by decide) _ _ _ rfl (World.ownsRow.alloc hown _) ⟨wr.heap.size, 0, none⟩ 1 1 [.int .i64 ((u : Int) + 1)] rfl rfl (cell_one_new _ _ _) (by intro u hu; simp at hu; subst hu; rfl) (by unfold maxLen; omega) (by omega) (by simp; omega) ?_; intro v7 w7 hown7 hgrow7 _)
              have hrow : w7.ownsRow wo.heap.size 3 1 v7 (q.xs.length + 1) ((child q.xs ((u : Int) + 1)).map (Value.int .i64)) := by simpa [child, List.take_of_length_le] using hown7
              have hb4 := (hb3.alloc hszr _).grown hgrow7 (by simp; omega) (fun g hg => (hown.lt g hg).1)
              obtain ⟨A4, c4, rfl, _, _⟩ := own_shape hrow
              have hrow2 : w7.ownsRow wo.heap.size 3 1 (Row.v ⟨A4, c4, child q.xs ((u : Int) + 1)⟩) (child q.xs ((u : Int) + 1)).length ((child q.xs ((u : Int) + 1)).map (Value.int .i64)) := by rw [hch]; simpa [Row.v, hch] using hrow
              have HR := Lib.hid hrow2
              have hin : In w7 A4 c4 (child q.xs ((u : Int) + 1)) := In.own (by rw [hch]; exact hrow) (by omega)
              have hbw4 := hb2.trans (hb4.mono hszo)
              have HCH := Lib.hid hch
              have hc8 : (child q.xs ((u : Int) + 1)).length ≤ 8 := by omega
              have hvv : Value.slice A4 (child q.xs ((u : Int) + 1)).length c4 = Value.slice A4 (q.xs.length + 1) c4 := by rw [hch]
              clear hown hb3 hrow hrow2 hown7 hgrow7 hch
              go_wp2_with fail
              by_cases hV : avoidB (qs.map Row.xs) (child q.xs ((u : Int) + 1)) = true
              · have HE2 := Lib.hid (show nxTo (qs.map Row.xs) q.xs (u + 1) = nxTo (qs.map Row.xs) q.xs u ++ [child q.xs ((u : Int) + 1)] by rw [HNS.out, if_pos hV])
                have ct := l12Avoids_b A A4 c c4 qs (child q.xs ((u : Int) + 1)) w7 true (h.next hbw4) hin hc8 hr8 hV
                rw [hvv] at ct
                (with_reducible refine ct.mono ?_)
                clear ct
                rintro e w8 ⟨rfl, hb8⟩
                have hsz4 := hb4.size
                have hb48 := hb4.trans (hb8.mono hsz4)
                have hbw8 := hbw4.trans (hb8.mono hbw4.size)
                have hsz8 := hb48.size
                have hO4 := (HO3.out.below hb48).add (own_below HR.out hb8) hsz8 hszo
                have hown2 := hO4.outN (n := rs2.length) (by simp)
                clear hV hvv hin hb4 hO2
                go_wp2_with (at_builtin; refine wpList_append_own _ rfl _ _ 24 rfl (w.heap.size) 36 j0 (.slice none 0 0) 1 24 Tryz.underlying24 hj hy0 hy1 hy2 rfl (by decide) _ _ _ rfl (World.ownsRow.alloc hown2 _) ⟨w8.heap.size, 0, none⟩ 1 1 [Value.slice A4 (q.xs.length + 1) c4] rfl rfl (cell_one_at _ _ (by simp)) (by intro u hu; simp at hu; subst hu; rfl) (by unfold maxLen; omega) (by omega) (by simp; omega) ?_; intro v9 w9 hown9 hgrow9 _)
                obtain ⟨A5, c5, rfl, hO6, hg3⟩ := hO4.grow (Nat.le_refl _) (by simp) hown9 hgrow9
                have hbw9 := hbw8.grown hg3 (by omega) (fun g hg => (hO4.olim (by simp) g hg).1)
                have K := Lib.hid (And.intro hO6 hbw9)
                clear hO6 hbw9 hown9 hgrow9 hg3 hO4 hown2 hbw8 hb48 hb8 hbw4
                go_wp2_with fail
                go_roundw
                case rel => exact ⟨u + 1, A5, c5, rs2 ++ [⟨A4, c4, child q.xs ((u : Int) + 1)⟩], by omega, by go_num, by rw [List.length_append]; rfl, Lib.hid (by rw [HE2.out, List.map_append, HX2.out]; simp), by simpa [Row.v, HCH.out] using K.out.1, K.out.2⟩
                case measure => simp [intOf]; omega
              · have hVf : avoidB (qs.map Row.xs) (child q.xs ((u : Int) + 1)) = false := by simpa using hV
                have HE2 := Lib.hid (show nxTo (qs.map Row.xs) q.xs (u + 1) = nxTo (qs.map Row.xs) q.xs u by rw [HNS.out, if_neg hV])
                have ct := l12Avoids_b A A4 c c4 qs (child q.xs ((u : Int) + 1)) w7 false (h.next hbw4) hin hc8 hr8 hVf
                rw [hvv] at ct
                (with_reducible refine ct.mono ?_)
                clear ct
                rintro e w8 ⟨rfl, hb8⟩
                have hsz4 := hb4.size
                have hb48 := hb4.trans (hb8.mono hsz4)
                have hbw8 := hbw4.trans (hb8.mono hbw4.size)
                have hsz8 := hb48.size
                have K := Lib.hid (And.intro ((HO3.out.below hb48).wider (Nat.le_refl _) hsz8) hbw8)
                clear hV hVf hvv hin hb4 hO2 hbw8 hb48 hb8 hbw4
                go_wp2_with fail
                go_roundw
                case rel => exact ⟨u + 1, A2, c2, rs2, by omega, by go_num, rfl, Lib.hid (by rw [HE2.out, HX2.out]), K.out.1, K.out.2⟩
                case measure => simp [intOf]; omega
        · obtain rfl : u = n := by omega
          have HE := Lib.hid (show rs2.map Row.xs = nextL (qs.map Row.xs) ((ls.map Row.xs).take (k + 1)) u by rw [HX2.out, HNX.out])
          go_wp2_with fail
          go_roundw
          case rel => exact ⟨k + 1, A2, c2, rs2, by omega, by go_num, rfl, HE, hO2, hb2⟩
          case measure => simp [intOf]; omega
    · obtain rfl : k = ls.length := by omega
      have HE := Lib.hid (show rs.map Row.xs = nextL (qs.map Row.xs) (ls.map Row.xs) n by rw [HX.out, List.take_of_length_le (by simp)])
      go_wp2_with fail
      go_ret
      exact ⟨A1, c1, rs, rfl, HE.out, hO, hb⟩
theorem infoLL : (Tryz.prog.info? 24).map (fun i => (i.zero, i.size, i.bytes)) = some (some (.slice none 0 0), 1, 24) := by kernel_rfl
/-- The cells tell each length's count. -/
def LensV (X : List (List Int)) (ts : List Value) (k : Nat) : Prop := ts.length = k ∧ ∀ j (h : j < ts.length), ∃ A c, ts[j] = .slice A (lastL X j).length c
theorem LensV.snoc {X : List (List Int)} {ts : List Value} {k : Nat} (h : LensV X ts k) (A : Option Addr) (c n : Nat) (hn : n = (lastL X k).length) : LensV X (ts ++ [.slice A n c]) (k + 1) := by
  refine ⟨by simp [h.1], fun j hj => ?_⟩
  rcases Nat.lt_or_ge j ts.length with h1 | h1
  · rw [List.getElem_append_left h1]; exact h.2 j h1
  · have : j = ts.length := by simp at hj; omega
    subst this
    refine ⟨A, c, ?_⟩
    simp [hn, h.1]
theorem lastL_bnd {X : List (List Int)} (hB : basisB X = true) {k : Nat} (hk : k ≤ 5) : (lastL X k).length ≤ 46656 ∧ ∀ q ∈ lastL X k, q.length ≤ 5 ∧ ∀ x ∈ q, 1 ≤ x ∧ x ≤ 8 := by
  refine ⟨by rw [lastL_len hB (by omega)]; exact clsL_le (by omega), fun q hq => ?_⟩
  have h1 := (lastL_mem hB k (by omega) q).1 hq
  unfold clsL at h1
  have h2 := permsI_mem (List.mem_filter.1 h1).1
  refine ⟨by omega, fun x hx => ?_⟩
  have := h2.2.1 x hx
  omega
set_option maxHeartbeats 2000000 in
theorem l12Class_any (A : Option Addr) (c : Nat) (qs : List Row) (n : Nat) (w : World) (h : InL w A c qs) (hB : basisB (qs.map Row.xs) = true) (hn : n ≤ 6) :
    Calls Tryz.prog 68 #[.slice A qs.length c, .int .i64 n] w fun e w' => ∃ A1 c1 ts, e = .returned (.slice A1 (n + 1) c1) ∧ LensV (qs.map Row.xs) ts (n + 1) ∧
      w'.ownsRow w.heap.size 24 1 (.slice A1 (n + 1) c1) (n + 1) ts ∧ Below w.heap.size w w' := by
  obtain ⟨k0, hk, hx0, hx1, hx2⟩ := info_parts infoLL
  have hr8 := rows_8 (basis_perm hB)
  have HBa := Lib.hid hB
  clear hB
  have hr0 : (w.alloc (.cells #[] 3)).ownsRow w.heap.size 3 1 (.slice (some ⟨w.heap.size, 0, none⟩) 0 0) 0 (([] : List Int).map (Value.int .i64)) := World.ownsRow_lit w #[] 0 (Nat.le_refl _) (by unfold maxLen; omega) rfl
  have hO0 : Own (w.alloc (.cells #[] 3)) w.heap.size (w.heap.size + 1) [⟨some ⟨w.heap.size, 0, none⟩, 0, []⟩] [] := Own.one hr0 (by simp)
  have hw1 : (w.alloc (.cells #[] 3)).heap.size = w.heap.size + 1 := by simp
  have hx1' : ((w.alloc (.cells #[] 3)).alloc (.cells #[Value.slice (some ⟨w.heap.size, 0, none⟩) 0 0] 36)).ownsRow w.heap.size 36 1 (.slice (some ⟨w.heap.size + 1, 0, none⟩) 1 1) 1 [Value.slice (some ⟨w.heap.size, 0, none⟩) 0 0] := by
    have := World.ownsRow_lit (base := w.heap.size) (e := 36) (size := 1) (w.alloc (.cells #[] 3)) #[Value.slice (some ⟨w.heap.size, 0, none⟩) 0 0] 1 (by simp) (by unfold maxLen; omega) rfl
    rw [hw1] at this
    exact this
  have hO1 : Own ((w.alloc (.cells #[] 3)).alloc (.cells #[Value.slice (some ⟨w.heap.size, 0, none⟩) 0 0] 36)) w.heap.size (w.heap.size + 2) [⟨some ⟨w.heap.size, 0, none⟩, 0, []⟩] [⟨some ⟨w.heap.size + 1, 0, none⟩, 1, [Value.slice (some ⟨w.heap.size, 0, none⟩) 0 0]⟩] :=
    Own.with_ ((hO0.below ((Below.refl _ _).alloc (Nat.le_refl _) _)).wider (Nat.le_refl _) (by omega)) hx1' (by simp)
  have hR0 : Read (((w.alloc (.cells #[] 3)).alloc (.cells #[Value.slice (some ⟨w.heap.size, 0, none⟩) 0 0] 36)).alloc (.cells #[Value.slice (some ⟨w.heap.size + 1, 0, none⟩) 1 1] 24)) (w.heap.size + 3) [⟨some ⟨w.heap.size, 0, none⟩, 0, []⟩] [⟨some ⟨w.heap.size + 1, 0, none⟩, 1, [Value.slice (some ⟨w.heap.size, 0, none⟩) 0 0]⟩] :=
    ((hO1.below ((Below.refl _ _).alloc (Nat.le_refl _) _)).wider (Nat.le_refl _) (by omega)).read
  have hown0 : (((w.alloc (.cells #[] 3)).alloc (.cells #[Value.slice (some ⟨w.heap.size, 0, none⟩) 0 0] 36)).alloc (.cells #[Value.slice (some ⟨w.heap.size + 1, 0, none⟩) 1 1] 24)).ownsRow w.heap.size 24 1 (.slice (some ⟨w.heap.size + 2, 0, none⟩) 1 1) 1 [Value.slice (some ⟨w.heap.size + 1, 0, none⟩) 1 1] := by
    have := World.ownsRow_lit (base := w.heap.size) (e := 24) (size := 1) ((w.alloc (.cells #[] 3)).alloc (.cells #[Value.slice (some ⟨w.heap.size, 0, none⟩) 0 0] 36)) #[Value.slice (some ⟨w.heap.size + 1, 0, none⟩) 1 1] 1 (by simp; omega) (by unfold maxLen; omega) rfl
    have hw2 : ((w.alloc (.cells #[] 3)).alloc (.cells #[Value.slice (some ⟨w.heap.size, 0, none⟩) 0 0] 36)).heap.size = w.heap.size + 2 := by simp
    rw [hw2] at this
    exact this
  have hb0 := (((Below.refl w.heap.size w).alloc (Nat.le_refl _) (.cells #[] 3)).alloc (by simp) (.cells #[Value.slice (some ⟨w.heap.size, 0, none⟩) 0 0] 36)).alloc (by simp; omega) (.cells #[Value.slice (some ⟨w.heap.size + 1, 0, none⟩) 1 1] 24)
  have HL0 : Hid (LensV (qs.map Row.xs) [Value.slice (some ⟨w.heap.size + 1, 0, none⟩) 1 1] (0 + 1)) := Lib.hid ⟨rfl, fun j hj => by
    obtain rfl : j = 0 := by simp at hj; omega
    exact ⟨_, _, rfl⟩⟩
  clear hr0 hO0 hw1 hx1' hO1
  go_enter Tryz.func68, Tryz.ntmps68
  go_wp2_with fail
  go_loopw [5, 6, 7] (fun cu v i wr => ∃ (u : Nat) (A1 : Option Addr) (c1 : Nat) (rs : List Row) (A2 : Option Addr) (c2 : Nat) (ts : List Value), u ≤ n ∧ i = .int .i64 ((u : Int) + 1) ∧ cu = .slice A1 rs.length c1 ∧ v = .slice A2 (u + 1) c2 ∧ Hid (rs.map Row.xs = lastL (qs.map Row.xs) u) ∧ Read wr wr.heap.size rs [⟨A1, c1, rs.map Row.v⟩] ∧ Hid (LensV (qs.map Row.xs) ts (u + 1)) ∧ wr.ownsRow w.heap.size 24 1 (.slice A2 (u + 1) c2) (u + 1) ts ∧ Below w.heap.size w wr) (fun _ _ i _ => n + 1 - (intOf i).toNat)
  case atStart => exact ⟨0, _, _, [⟨some ⟨w.heap.size, 0, none⟩, 0, []⟩], _, _, _, Nat.zero_le _, rfl, rfl, rfl, Lib.hid rfl, hR0.more (by simp), HL0, hown0, hb0⟩
  case round =>
    clear hR0 hown0 hb0 HL0
    obtain ⟨u, A1, c1, rs, A2, c2, ts, hu, rfl, rfl, rfl, HX, hR, HL, hown, hb⟩ := hrel
    rcases Nat.lt_or_ge u n with hlt | hge
    · have hun : (u : Int) + 1 ≤ (n : Int) := by omega
      have hbn := lastL_bnd HBa.out (k := u) (by omega)
      have hll : rs.length ≤ 46656 := by have := congrArg List.length HX.out; rw [List.length_map] at this; omega
      have hl5 : ∀ r ∈ rs, r.xs.length ≤ 5 ∧ ∀ x ∈ r.xs, 1 ≤ x ∧ x ≤ 8 := fun r hr => hbn.2 r.xs (by rw [← HX.out]; exact List.mem_map_of_mem hr)
      have ct := l12Next_any A c qs A1 c1 (u + 1) rs wr (h.next hb) hr8 (by omega) hR hll hl5
      have hcast : ((u + 1 : Nat) : Int) = (u : Int) + 1 := by omega
      rw [hcast] at ct
      have HN := Lib.hid (show nextL (qs.map Row.xs) (rs.map Row.xs) (u + 1) = lastL (qs.map Row.xs) (u + 1) by rw [HX.out]; rfl)
      clear hbn hll hl5 hR hcast
      go_wp2_with fail
      (with_reducible refine ct.mono ?_)
      clear ct
      rintro e w2 ⟨A3, c3, rs3, rfl, hX3, hO3, hb2⟩
      have HX3 := Lib.hid (hX3.trans HN.out)
      have hn3 := Lib.hid (show rs3.length = (lastL (qs.map Row.xs) (u + 1)).length by rw [← HX3.out, List.length_map])
      have hown2 := own_below hown hb2
      have hlim := fun g hg => (hown.lt g hg).2
      have hbw := hb.trans (hb2.mono hb.size)
      have hszw := hbw.size
      clear hX3 hown hb2
      go_wp2_with (at_builtin; refine wpList_append_own _ rfl _ _ 64 rfl (w.heap.size) 24 k0 (.slice none 0 0) 1 24 Tryz.underlying64 hk hx0 hx1 hx2 rfl (by decide) _ _ _ rfl (World.ownsRow.alloc hown2 _) ⟨w2.heap.size, 0, none⟩ 1 1 [Value.slice A3 rs3.length c3] rfl rfl (cell_one_at _ _ (by simp)) (by intro u hu; simp at hu; subst hu; rfl) (by unfold maxLen; omega) (by omega) (by simp; omega) ?_; intro v7 w7 hown7 hgrow7 _)
      have hg1 := grown_trans (World.grownBy_alloc w2 (Obj.cells #[Value.slice A3 rs3.length c3] 24) _) hgrow7
      have hO4 := hO3.span (Span.of_grown (lo := 0) (hi := wr.heap.size) hg1 (fun g hg => ⟨Nat.zero_le _, hlim g hg⟩)) (.inr (Nat.le_refl _))
      have hb4 := hbw.grown hg1 hszw (fun g hg => (hown2.lt g hg).1)
      have hsz4 := hg1.size
      have hR4 := (hO4.wider (Nat.le_refl _) hsz4).read
      obtain ⟨A5, c5, rfl, _, _⟩ := own_shape hown7
      have K := Lib.hid (And.intro hown7 hb4)
      have HL2 := Lib.hid (HL.out.snoc A3 c3 rs3.length hn3.out)
      clear hown7 hgrow7 hg1 hO4 hb4 hO3 hown2 hlim
      go_wp2_with fail
      go_roundw
      case rel => exact ⟨u + 1, A3, c3, rs3, A5, c5, _, by omega, by go_num, rfl, rfl, HX3, hR4, HL2, K.out.1, K.out.2⟩
      case measure => simp [intOf]; omega
    · obtain rfl : u = n := by omega
      go_wp2_with fail
      go_ret
      exact ⟨A2, c2, ts, rfl, HL.out, hown, hb⟩
theorem own_neT {w : World} {b1 b2 e1 e2 n1 n2 : Nat} {v1 v2 : Value} {x1 x2 : List Value} (h1 : w.ownsRow b1 e1 1 v1 n1 x1) (h2 : w.ownsRow b2 e2 1 v2 n2 x2) (he : e1 ≠ e2) : v1.ownBlock = none ∨ v1.ownBlock ≠ v2.ownBlock := by
  rcases h1.2 with ⟨e, _⟩ | ⟨g1, c1, cur1, e1', _, hh1, _⟩
  · exact .inl (by rw [e]; rfl)
  · refine .inr fun h => ?_
    rcases h2.2 with ⟨e, _⟩ | ⟨g2, c2, cur2, e2', _, hh2, _⟩
    · rw [e, e1'] at h; cases h
    · rw [e1', e2'] at h
      injection h with h
      simp only at h
      subst h
      rw [hh1] at hh2
      injection hh2 with hh2
      injection hh2 with _ ht _
      exact he ht
set_option maxHeartbeats 2000000 in
theorem classCounts_spec (A : Option Addr) (c : Nat) (qs : List Row) (n : Int) (_ : -9223372036854775808 ≤ n ∧ n ≤ 9223372036854775807) (w : World) (h : InL w A c qs) :
    Calls Tryz.prog 28 #[.slice A qs.length c, .int .i64 n] w (Ret (Value.int .i64) 3 w (ccG (qs.map Row.xs) n)) := by
  obtain ⟨i0, hi, hz0, hz1, hz2⟩ := info_parts infoI
  have hown0 : (w.alloc (.cells #[] 3)).ownsRow w.heap.size 3 1 (.slice (some ⟨w.heap.size, 0, none⟩) 0 0) 0 ((cntsTo (fun k => (lastL (qs.map Row.xs) k).length) 0).map (Value.int .i64)) := World.ownsRow_lit w #[] 0 (Nat.le_refl _) (by unfold maxLen; omega) rfl
  have hb0 := (Below.refl w.heap.size w).alloc (Nat.le_refl _) (.cells #[] 3)
  by_cases hB : basisB (qs.map Row.xs) = true
  · have H1 := Lib.hid hB
    clear hB
    go_enter Tryz.func28, Tryz.ntmps28
    go_wp2_with fail
    generalize (w.alloc (Obj.cells #[] 3)) = w0 at hown0 hb0 ⊢
    (with_reducible refine (basis_sb A c qs w0 true (h.next hb0) H1.out).mono ?_)
    rintro e w1 ⟨rfl, hb1⟩
    have hbw := hb0.trans (hb1.mono hb0.size)
    have hown1 := own_below hown0 hb1
    go_wp2_with fail
    by_cases h6 : sixB n = true
    · have h6' : 0 ≤ n ∧ n ≤ 6 := by simpa [sixB] using h6
      (with_reducible refine (l1In_b n 0 6 w1 true (decide_eq_true h6')).mono ?_)
      rintro e w' ⟨rfl, rfl⟩
      obtain ⟨m, rfl⟩ := Int.eq_ofNat_of_zero_le h6'.1
      have hm : m ≤ 6 := by omega
      have HG := Lib.hid (show ccG (qs.map Row.xs) m = cntsTo (fun k => (lastL (qs.map Row.xs) k).length) (m + 1) by
        unfold ccG; rw [if_pos ⟨H1.out, h6⟩]
        refine List.map_congr_left fun k hk => ?_
        have hk' : k ≤ m := by simp at hk; omega
        show ((clsL (qs.map Row.xs) k).length : Int) = ((lastL (qs.map Row.xs) k).length : Int)
        rw [lastL_len H1.out (by omega)])
      clear h6 h6'
      go_wp2_with fail
      (with_reducible refine (l12Class_any A c qs m w1 (h.next hbw) H1.out hm).mono ?_)
      rintro e w2 ⟨A1, c1, ts, rfl, hts, hall, hb2⟩
      have hszw := hbw.size
      have hall2 := own_mono hall hszw
      have hown2 := own_below hown1 hb2
      have hbw2 := hbw.trans (hb2.mono hszw)
      have HTS := Lib.hid hts
      clear hts hall hown1 hb2 hown0 hb0 hb1
      go_wp2_with fail
      go_loopw [5, 7] (fun v i wr => ∃ (k : Nat) (A2 : Option Addr) (c2 : Nat), k ≤ m + 1 ∧ i = .int .i64 k ∧ v = .slice A2 k c2 ∧ wr.ownsRow w.heap.size 3 1 (.slice A2 k c2) k ((cntsTo (fun k => (lastL (qs.map Row.xs) k).length) k).map (Value.int .i64)) ∧ wr.ownsRow w.heap.size 24 1 (.slice A1 (m + 1) c1) (m + 1) ts ∧ Below w.heap.size w wr) (fun _ i _ => m + 1 - (intOf i).toNat)
      case atStart => exact ⟨0, _, _, Nat.zero_le _, rfl, rfl, hown2, hall2, hbw2⟩
      case round =>
        clear hown2 hall2 hbw2
        obtain ⟨k, A2, c2, hk, rfl, rfl, hown, hall, hb⟩ := hrel
        rcases Nat.lt_or_ge k (m + 1) with hlt | hge
        · have HS := Lib.hid (cntsTo_succ (fun k => (lastL (qs.map Row.xs) k).length) k)
          have hsz := hb.size
          obtain ⟨B, d, hBd⟩ := HTS.out.2 k (by rw [HTS.out.1]; exact hlt)
          have hrd : Rd id wr wr.heap.size A1 ts := Rd.of_own (f := id) (e := 24) (c := c1) (by rw [List.map_id, HTS.out.1]; exact hall)
          obtain ⟨bt, ot, rfl, hbt, hct⟩ := hrd (by rw [HTS.out.1]; omega)
          have g1 : wr.cell? ⟨bt, ot + k, none⟩ = some (Value.slice B (lastL (qs.map Row.xs) k).length d) := by rw [hct k (by rw [HTS.out.1]; exact hlt)]; exact congrArg some hBd
          obtain ⟨z, hz⟩ : ∃ z : Nat, z = (lastL (qs.map Row.xs) k).length := ⟨_, rfl⟩
          have HZ := Lib.hid hz
          rw [← hz] at g1
          have hkm : (k : Int) < (m : Int) + 1 := by omega
          clear hz hct hrd hBd
          go_wp2_with (at_builtin; refine wpList_append_own _ rfl _ _ 36 rfl (w.heap.size) 3 i0 (.int .i64 0) 1 8 Tryz.underlying36 hi hz0 hz1 hz2 rfl (by decide) _ _ _ rfl (World.ownsRow.alloc hown _) ⟨wr.heap.size, 0, none⟩ 1 1 [.int .i64 ((z : Int))] rfl rfl (cell_one_new _ _ _) (by intro u hu; simp at hu; subst hu; rfl) (by unfold maxLen; omega) (by omega) (by simp; omega) ?_; intro v7 w7 hown7 hgrow7 _)
          have hS2 : w7.ownsRow w.heap.size 3 1 v7 (k + 1) ((cntsTo (fun k => (lastL (qs.map Row.xs) k).length) (k + 1)).map (Value.int .i64)) := by rw [HS.out, ← HZ.out]; simpa using hown7
          have hg1 := grown_trans (World.grownBy_alloc wr _ _) hgrow7
          have hb3 := hb.grown hg1 hsz (fun g hg => (hown.lt g hg).1)
          have hall3 := hall.kept hg1 (own_neT hall hown (by decide))
          obtain ⟨A3, c3, rfl, _, _⟩ := own_shape hS2
          have K := Lib.hid (And.intro hS2 (And.intro hall3 hb3))
          clear hS2 hown7 hgrow7 hb3 hown hall3 hg1
          go_wp2_with fail
          go_roundw
          case rel => exact ⟨k + 1, A3, c3, by omega, by go_num, rfl, K.out.1, K.out.2.1, K.out.2.2⟩
          case measure => simp [intOf]; omega
        · obtain rfl : k = m + 1 := by omega
          have HL := Lib.hid (cntsTo_length (fun k => (lastL (qs.map Row.xs) k).length) (m + 1))
          go_wp2_with fail
          go_ret
          rw [HG.out]
          exact ⟨A2, c2, by rw [HL.out]; rfl, by rw [HL.out]; exact (own_caps hown).1, (own_caps hown).2, by rw [HL.out]; exact hown, hb⟩
    · have h6f : sixB n = false := by simpa using h6
      have HG := Lib.hid (show ccG (qs.map Row.xs) n = [] by unfold ccG; rw [if_neg]; exact fun h => h6 h.2)
      (with_reducible refine (l1In_b n 0 6 w1 false (decide_eq_false (fun hh => absurd (by simpa [sixB] using hh) h6))).mono ?_)
      rintro e w' ⟨rfl, rfl⟩
      clear h6 h6f
      go_wp2_with fail
      go_ret
      rw [HG.out]
      exact ⟨_, _, rfl, Nat.le_refl _, by unfold maxLen; omega, hown1, hbw⟩
  · have hBf : basisB (qs.map Row.xs) = false := by simpa using hB
    have H1 := Lib.hid hBf
    have HG := Lib.hid (show ccG (qs.map Row.xs) n = [] by unfold ccG; rw [if_neg]; exact fun h => hB h.1)
    clear hB hBf
    go_enter Tryz.func28, Tryz.ntmps28
    go_wp2_with fail
    generalize (w.alloc (Obj.cells #[] 3)) = w0 at hown0 hb0 ⊢
    (with_reducible refine (basis_sb A c qs w0 false (h.next hb0) H1.out).mono ?_)
    rintro e w1 ⟨rfl, hb1⟩
    go_wp2_with fail
    go_ret
    rw [HG.out]
    exact ⟨_, _, rfl, Nat.le_refl _, by unfold maxLen; omega, own_below hown0 hb1, hb0.trans (hb1.mono hb0.size)⟩
end Go.Proofs.YtodloeonlaljpaaGreat

/- The draws of FnRuns: pairs of lists, numbers. -/
namespace Go.Proofs.YtodloeonlaljpaaGreat
set_option maxRecDepth 100000
open Go Go.RowKit

/-- Two lists were drawn, both read. -/
def RetII (w : World) (ok : List Int → List Int → Prop) (en : Ending) (w' : World) : Prop :=
  ∃ D k xs E m ys, en = .returned (.tuple #[.slice D xs.length k, .slice E ys.length m]) ∧ ok xs ys ∧ In w' D k xs ∧ In w' E m ys ∧ Below w.heap.size w w'
theorem In.of_own {w : World} {base e c : Nat} {A : Option Addr} {xs : List Int} (h : w.ownsRow base e 1 (.slice A xs.length c) xs.length (xs.map (Value.int .i64))) (hl : xs.length ≤ 1048576) : In w A c xs := ⟨hl, (own_caps h).1, Rd.of_own h⟩
end Go.Proofs.YtodloeonlaljpaaGreat

/- The law's own helpers of FnMeets: straight and back. -/
namespace Go.Proofs.YtodloeonlaljpaaGreat
set_option maxRecDepth 100000
open Go Go.RowKit

set_option maxHeartbeats 800000 in
theorem straight_any (A : Option Addr) (c : Nat) (xs : List Int) (w : World) (hl : xs.length ≤ 1048576) (hx : Rd (Value.int .i64) w w.heap.size A xs) :
    Calls Tryz.prog 30 #[.slice A xs.length c] w (Rq w (.bool (riseB xs))) := by
  go_enter Tryz.func30, Tryz.ntmps30
  go_wp2_with fail
  go_loopw [3] (fun i wr => ∃ k : Nat, k ≤ xs.length ∧ i = .int .i64 k ∧ Dr w wr ∧ Hid (xs.take k = nums k)) (fun i _ => xs.length - (intOf i).toNat)
  case atStart => exact ⟨0, Nat.zero_le _, rfl, Dr.refl _, Lib.hid rfl⟩
  case round =>
    obtain ⟨k, hk, rfl, hd, hT⟩ := hrel
    rcases Nat.lt_or_ge k xs.length with hlt | hge
    · obtain ⟨b, off, rfl, hb, hcx⟩ := hx (by omega)
      have f1 : wr.cell? ⟨b, off + k, none⟩ = some (.int .i64 xs[k]) := (hd.cell _).trans (hcx k hlt)
      have l1 : (k : Int) < (xs.length : Int) := by omega
      have l0 : (0 : Int) ≤ (k : Int) := Int.natCast_nonneg _
      have e1 : IntKind.i64.wrap ((k : Int) + 1) = (k : Int) + 1 := IntWalk.i64_in _ (by omega)
      by_cases he : xs[k] = (k : Int) + 1
      · have hbe : (xs[k] != (k : Int) + 1) = false := by simp [he]
        have HT := Lib.hid (show xs.take (k + 1) = nums (k + 1) by rw [List.take_succ_eq_append_getElem hlt, hT.out, he, nums_succ])
        generalize xs[k] = u at f1 hbe he
        clear he
        go_wp2_with fail
        go_roundw
        case rel => exact ⟨k + 1, by omega, by go_num, hd, HT⟩
        case measure => simp [intOf]; omega
      · have hbe : (xs[k] != (k : Int) + 1) = true := by simp [he]
        have HF := Lib.hid (show riseB xs = false by
          unfold riseB
          rw [decide_eq_false_iff_not]
          intro h
          apply he
          have h2 : xs[k]? = (nums xs.length)[k]? := by rw [← h]
          rw [List.getElem?_eq_getElem hlt] at h2
          simp only [nums, List.getElem?_map, List.getElem?_range hlt, Option.map_some] at h2
          injection h2)
        generalize xs[k] = u at f1 hbe he
        clear he
        go_wp2_with fail
        go_ret
        exact ⟨by rw [HF.out]; rfl, hd⟩
    · obtain rfl : k = xs.length := by omega
      have HF := Lib.hid (show riseB xs = true by
        unfold riseB
        rw [decide_eq_true_eq]
        have := hT.out
        rwa [List.take_length] at this)
      go_wp2_with fail
      go_ret
      exact ⟨by rw [HF.out]; rfl, hd⟩
theorem rev_takeB (xs : List Int) (k : Nat) (h : k < xs.length) : (xs.drop k).reverse = (xs.drop (k + 1)).reverse ++ [xs[k]] := by
  rw [List.drop_eq_getElem_cons h, List.reverse_cons]
set_option maxHeartbeats 1000000 in
theorem back_any (A : Option Addr) (c n : Nat) (xs : List Int) (w : World) (hn : xs.length = n) (hl : n ≤ 1048576) (hx : Rd (Value.int .i64) w w.heap.size A xs) :
    Calls Tryz.prog 31 #[.slice A n c] w (Ret (Value.int .i64) 3 w xs.reverse) := by
  obtain ⟨i0, hi, hz0, hz1, hz2⟩ := info_parts infoI
  have HN := Lib.hid hn
  have hn1 : xs.length ≤ n := by omega
  have hn2 : n ≤ xs.length := by omega
  clear hn
  have hown0 : (w.alloc (.cells #[] 3)).ownsRow w.heap.size 3 1 (.slice (some ⟨w.heap.size, 0, none⟩) 0 0) 0 (((xs.drop n).reverse).map (Value.int .i64)) := by
    rw [List.drop_of_length_le hn1]
    exact World.ownsRow_lit w #[] 0 (Nat.le_refl _) (by unfold maxLen; omega) rfl
  have hb0 := (Below.refl w.heap.size w).alloc (Nat.le_refl _) (.cells #[] 3)
  go_enter Tryz.func31, Tryz.ntmps31
  go_wp2_with fail
  go_loopw [3, 4] (fun v i wr => ∃ (k m : Nat) (A1 : Option Addr) (c1 : Nat), k ≤ n ∧ m = n - k ∧ i = .int .i64 ((k : Int) - 1) ∧ v = .slice A1 m c1 ∧ wr.ownsRow w.heap.size 3 1 (.slice A1 m c1) m (((xs.drop k).reverse).map (Value.int .i64)) ∧ Below w.heap.size w wr) (fun _ i _ => (intOf i + 1).toNat)
  case atStart => exact ⟨n, 0, _, _, Nat.le_refl _, by omega, rfl, rfl, hown0, hb0⟩
  case round =>
    clear hown0 hb0
    obtain ⟨k, m, A1, c1, hk, hm, rfl, rfl, hown, hb⟩ := hrel
    have hmn : m ≤ n := by omega
    have HM := Lib.hid hm
    have hsz := hb.size
    clear hm
    rcases Nat.eq_zero_or_pos k with h0 | h0
    · subst h0
      have hneg : ¬ ((0 : Int) ≤ ((0 : Nat) : Int) - 1) := by omega
      have HE := Lib.hid (show m = xs.reverse.length by rw [List.length_reverse]; have := HM.out; omega)
      rw [List.drop_zero] at hown
      go_wp2_with fail
      go_ret
      exact ⟨A1, c1, by rw [← HE.out]; rfl, by rw [← HE.out]; exact (own_caps hown).1, (own_caps hown).2, by rw [← HE.out]; first | exact hown | simpa using hown, hb⟩
    · obtain ⟨j, hj⟩ : ∃ j : Nat, (j : Int) = (k : Int) - 1 := ⟨k - 1, by omega⟩
      have hjx : j < xs.length := by omega
      obtain ⟨b, off, rfl, _, hc⟩ := (hx.next hb) (by omega)
      have cc := hc j hjx
      have HT := Lib.hid (show (xs.drop j).reverse = (xs.drop k).reverse ++ [xs[j]] by rw [rev_takeB xs j hjx, show j + 1 = k by omega])
      have HJ := Lib.hid hj
      have hjn : j < n := by omega
      have hjk : j < k := by omega
      have HMJ := Lib.hid (show m + 1 = n - j by have := HM.out; omega)
      rw [← hj]
      clear hc hj
      go_wp2_with (at_builtin; refine wpList_append_own _ rfl _ _ 36 rfl (w.heap.size) 3 i0 (.int .i64 0) 1 8 Tryz.underlying36 hi hz0 hz1 hz2 rfl (by decide) _ _ _ rfl (World.ownsRow.alloc hown _) ⟨wr.heap.size, 0, none⟩ 1 1 [.int .i64 (xs[j])] rfl rfl (cell_one_new _ _ _) (by intro u hu; simp at hu; subst hu; rfl) (by unfold maxLen; omega) (by omega) (by simp; omega) ?_; intro v1 w1 hown1 hgrow1 _)
      have hS2 : w1.ownsRow w.heap.size 3 1 v1 (m + 1) (((xs.drop j).reverse).map (Value.int .i64)) := by rw [HT.out]; simpa using hown1
      have hb1 := (hb.alloc hsz (Obj.cells #[Value.int .i64 xs[j]] 3)).grown hgrow1 (by simp; omega) (by intro g hg; exact ((hown.lt g hg).1))
      obtain ⟨A2, c2, rfl, _, _⟩ := own_shape hS2
      have H1 := Lib.hid hS2
      have H2 := Lib.hid hb1
      clear hS2 hown1 hgrow1 hb1 hown hb
      go_wp2
      go_roundw
      case rel => exact ⟨j, m + 1, A2, c2, by omega, HMJ.out, by go_num, rfl, H1.out, H2.out⟩
      case measure => (simp [intOf]) <;> omega
end Go.Proofs.YtodloeonlaljpaaGreat

/- slices.CompactFunc of a list of rows: of equal neighbors the first one is kept. -/
namespace Go.Proofs.YtodloeonlaljpaaGreat
set_option maxRecDepth 100000
open Go Go.RowKit

theorem compL_snoc (L : List (List Int)) (x y : List Int) : compL (L ++ [x] ++ [y]) = if x = y then compL (L ++ [x]) else compL (L ++ [x]) ++ [y] := by
  match L with
  | [] =>
    simp only [List.nil_append, List.cons_append, compL]
    by_cases h : x = y <;> simp [h]
  | [a] =>
    simp only [List.cons_append, List.nil_append, compL]
    by_cases h1 : a = x
    · by_cases h : x = y <;> simp [h1, h]
    · by_cases h : x = y <;> simp [h1, h]
  | a :: b :: t =>
    have ih := compL_snoc (b :: t) x y
    simp only [List.cons_append, compL] at ih ⊢
    by_cases h1 : a = b
    · rw [if_pos h1, if_pos h1]; exact ih
    · rw [if_neg h1, if_neg h1, ih]
      by_cases h : x = y
      · rw [if_pos h, if_pos h]
      · rw [if_neg h, if_neg h]; rfl
theorem compL_take (X : List (List Int)) (k : Nat) (h0 : 0 < k) (h : k < X.length) : compL (X.take (k + 1)) = if X[k - 1]'(by omega) = X[k] then compL (X.take k) else compL (X.take k) ++ [X[k]] := by
  have e1 : X.take k = X.take (k - 1) ++ [X[k - 1]'(by omega)] := by
    have := List.take_succ_eq_append_getElem (l := X) (i := k - 1) (by omega)
    rwa [Nat.sub_add_cancel h0] at this
  rw [List.take_succ_eq_append_getElem h, e1]
  exact compL_snoc _ _ _
section
variable {w w' : World} {base e g k n cap j : Nat} {V : List Value}
theorem own_beyond (h : w.ownsRow base e 1 (.slice (some ⟨g, 0, none⟩) k cap) k V) (hj : k ≤ j) (u : Value) : (w.setCell ⟨g, j, none⟩ u).ownsRow base e 1 (.slice (some ⟨g, 0, none⟩) k cap) k V := by
  refine ⟨h.1, ?_⟩
  rcases h.2 with ⟨e, _⟩ | ⟨g', cap', cur, hv, hb, hh, h1, h2, h3, h4⟩
  · cases e
  · injection hv with hv _ hc
    injection hv with hv
    injection hv with hv _ _
    subst hv hc
    refine .inr ⟨g, cap, cur.setIfInBounds j u, rfl, hb, obj_set hh u, h1, h2, by simpa using h3, ?_⟩
    rw [← h4, Array.toList_setIfInBounds, Nat.mul_one, List.take_set_of_le hj]
theorem grown_set (w : World) (g j : Nat) (u : Value) : w.grownBy (w.setCell ⟨g, j, none⟩ u) (some g) :=
  ⟨rfl, rfl, rfl, by simp [World.setCell], fun k _ hk => by
    simp only [World.setCell, Array.getElem?_modify]
    rw [if_neg (fun h => hk (by rw [h]))]⟩
theorem own_sets (vs : List Value) : ∀ (o : Nat) (w : World), w.ownsRow base e 1 (.slice (some ⟨g, 0, none⟩) k cap) k V → k ≤ o → (w.setCells g o vs).ownsRow base e 1 (.slice (some ⟨g, 0, none⟩) k cap) k V ∧ w.grownBy (w.setCells g o vs) (some g) := by
  induction vs with
  | nil => intro o w h _; exact ⟨h, World.grownBy.refl w _⟩
  | cons a t ih =>
    intro o w h ho
    obtain ⟨h1, h2⟩ := ih (o + 1) (w.setCell ⟨g, o, none⟩ a) (own_beyond h ho a) (by omega)
    exact ⟨h1, grown_trans (grown_set w g o a) h2⟩
theorem own_set_at (h : w.ownsRow base e 1 (.slice (some ⟨g, 0, none⟩) n cap) n V) (hj : j < n) (u : Value) : (w.setCell ⟨g, j, none⟩ u).ownsRow base e 1 (.slice (some ⟨g, 0, none⟩) n cap) n (V.set j u) := by
  exact (h.stored j u).1
end
theorem call_eqf (args : Array Value) (w : World) : (callFunc 92 args).run Tryz.prog w = .ok (.enter 92 args) w := by kernel_rfl
theorem zeroL (w : World) : (zeroValue 36).run Tryz.prog w = .ok (.slice none 0 0) w := by kernel_rfl
set_option maxHeartbeats 8000000 in
theorem compact_any (A : Option Addr) (c lo : Nat) (rs : List Row) (w : World) (hO : Own w lo w.heap.size rs [⟨A, c, rs.map Row.v⟩]) (hn : rs.length ≤ 1048576) (hr8 : ∀ r ∈ rs, r.xs.length ≤ 1048576) :
    Calls Tryz.prog 91 #[.slice A rs.length c, .func (.func 92) #[] #[]] w (RetP w lo A (compL (rs.map Row.xs))) := by
  have hcap := own_caps hO.out
  rw [List.length_map] at hcap
  have HR8 := Lib.hid hr8
  have hc63 : c ≤ 9223372036854775807 := by have := hcap.2; unfold maxLen at this; omega
  rcases Nat.lt_or_ge rs.length 2 with h2 | h2
  · have HE := Lib.hid (show compL (rs.map Row.xs) = rs.map Row.xs by
      match rs, h2 with
      | [], _ => rfl
      | [r], _ => rfl)
    go_enter Tryz.func91, Tryz.ntmps91
    have d0 : decide ((rs.length : Int) < 2) = true := decide_eq_true (by omega)
    go_wp2_with fail
    go_ret
    exact ⟨A, c, rs, rfl, HE.out.symm, hO, below_grown (Below.refl _ _)⟩
  have hcf := call_eqf
  obtain ⟨g, hgA, hglo, hglt⟩ : ∃ g, A = some ⟨g, 0, none⟩ ∧ lo ≤ g ∧ g < w.heap.size := by
    obtain ⟨g, cap, hv, h1, h3⟩ := hO.out.form (by rw [List.length_map]; omega)
    injection hv with hv _ _
    exact ⟨g, hv, h1, h3⟩
  subst hgA
  have HO := Lib.hid hO
  have hown0 := hO.outN (n := rs.length) (by simp)
  have d0 : decide ((rs.length : Int) < 2) = false := decide_eq_false (by omega)
  clear hr8 hO
  go_enter Tryz.func91, Tryz.ntmps91
  go_wp2_with fail
  go_loopw [5] (fun i wr => ∃ k : Nat, 0 < k ∧ k ≤ rs.length ∧ i = .int .i64 k ∧ Hid (compL ((rs.map Row.xs).take k) = (rs.map Row.xs).take k) ∧ Dr w wr) (fun i _ => rs.length - (intOf i).toNat)
  case atStart => exact ⟨1, by omega, by omega, rfl, Lib.hid (by
    match rs, h2 with
    | a :: b :: t, _ => rfl), Dr.refl _⟩
  case round =>
    obtain ⟨k, hk0, hk, rfl, HC, hd⟩ := hrel
    have hszr : wr.heap.size = w.heap.size := by rw [hd.heap]
    have HZ := Lib.hid hszr
    rcases Nat.lt_or_ge k rs.length with hlt | hge
    · have hOr := HO.out.dr hd
      have hRr := hOr.read
      have c0 := hRr.cellAt k hlt
      have c1 := hRr.cellAt (k - 1) (by omega)
      rw [Nat.zero_add] at c0 c1
      have c0d : wr.drew.cell? ⟨g, k, none⟩ = some (Value.slice rs[k].A rs[k].xs.length rs[k].c) := c0
      have c1d : wr.drew.cell? ⟨g, k - 1, none⟩ = some (Value.slice (rs[k - 1]'(by omega)).A (rs[k - 1]'(by omega)).xs.length (rs[k - 1]'(by omega)).c) := c1
      have e1 : IntKind.i64.wrap ((k : Int) - 1) = (k : Int) - 1 := IntWalk.i64_in _ (by omega)
      have e2 : ((k : Int) - 1).toNat = k - 1 := by omega
      have e3 : 0 ≤ (k : Int) - 1 := by omega
      have e4 : (k : Int) - 1 < (rs.length : Int) := by omega
      have e5 : (k : Int) < (rs.length : Int) := by omega
      have e6 : 0 ≤ (k : Int) := by omega
      have e7 : 1 ≤ (k : Int) := by omega
      have e8 : (k : Int) ≤ (rs.length : Int) := by omega
      have hx0 := ((hRr.rd rs[k] (List.getElem_mem hlt)).dr (w' := wr.drew) (Dr.refl _).drew).more (B' := wr.drew.heap.size) (by show _ ≤ wr.heap.size; omega)
      have hx1 := ((hRr.rd (rs[k - 1]'(by omega)) (List.getElem_mem _)).dr (w' := wr.drew) (Dr.refl _).drew).more (B' := wr.drew.heap.size) (by show _ ≤ wr.heap.size; omega)
      have hl0 := HR8.out rs[k] (List.getElem_mem hlt)
      have hl0' : rs[k].xs.length ≤ 4611686018427387904 := by omega
      have HT := Lib.hid (compL_take (rs.map Row.xs) k hk0 (by simpa using hlt))
      have hXk : (rs.map Row.xs)[k]'(by simpa using hlt) = rs[k].xs := by simp
      have hXk1 : (rs.map Row.xs)[k - 1]'(by rw [List.length_map]; omega) = (rs[k - 1]'(by omega)).xs := by simp
      have HXk := Lib.hid hXk
      have HXk1 := Lib.hid hXk1
      clear hXk hXk1 hOr hRr
      by_cases he : rs[k].xs = (rs[k - 1]'(by omega)).xs
      · have HS := Lib.hid (show compL ((rs.map Row.xs).take (k + 1)) = (rs.map Row.xs).take k by rw [HT.out, HXk.out, HXk1.out, if_pos he.symm, HC.out])
        have HD := Lib.hid (decide_eq_true he)
        clear he
        go_wp2_with fail
        go_region_held3 (fun v => v.cell? ⟨g, k, none⟩ = some ((Value.slice rs[k].A rs[k].xs.length rs[k].c)) ∧ v.cell? ⟨g, k - 1, none⟩ = some ((Value.slice (rs[k - 1]'(by omega)).A (rs[k - 1]'(by omega)).xs.length (rs[k - 1]'(by omega)).c))) (first | exact ⟨c0d, c1d⟩ | exact ⟨cq0, cq1⟩) ((first | (go_at_call 92; (with_reducible refine (equal_b _ _ _ _ _ _ _ _ wr.drew true rfl rfl hl0' hx0 hx1 HD.out).mono ?_); rintro e wq ⟨rfl, hdq⟩; have cq0 := (hdq.cell ⟨g, k, none⟩).trans c0d; have cq1 := (hdq.cell ⟨g, k - 1, none⟩).trans c1d) | fail))
        have hdr : Dr w wq := (hd.trans (Dr.refl _).drew).trans hdq
        have hownq := hdr.own hown0
        have HGR := Lib.hid (show w.grownBy wq (some g) from below_grown (below_dr (Below.refl _ _) hdr))
        have hkc : ¬ c = k := by omega
        have HTS := Lib.hid (show (rs.take k).Sublist (rs.take (k + 1)) by
          have e : rs.take k = (rs.take (k + 1)).take k := by rw [List.take_take, Nat.min_eq_left (Nat.le_succ k)]
          rw [e]; exact List.take_sublist _ _)
        have hsl : ∀ w, (Instr.slice 24 (.slice (some ⟨g, 0, none⟩) rs.length c) (some (.int .i64 (k : Int))) none none).run Tryz.prog w = .ok (.slice (some ⟨g, k, none⟩) (rs.length - k) (c - k)) w := fun w => by
          rw [run_cut (P := Tryz.prog) (t := 24) Tryz.underlying24 sizeL (some ⟨g, 0, none⟩) rs.length c k (k : Int) rfl (by omega) w]
          unfold cutA
          rw [if_neg hkc]
          simp [Addr.add, show k ≠ 0 by omega]
        clear c0 c1 c0d c1d cq0 cq1 hx0 hx1 hdq hdr
        go_wp2_with fail
        go_loopw [5, 7] (fun i i2 wq0 => ∃ (u : Nat) (kept : List Row) (V : List Value), 0 < u ∧ k + u ≤ rs.length ∧ i2 = .int .i64 u ∧ i = .int .i64 kept.length ∧ kept.length ≤ k + u - 1 ∧ Hid (kept.map Row.xs = compL ((rs.map Row.xs).take (k + u))) ∧ kept.Sublist (rs.take (k + u)) ∧
          wq0.ownsRow lo 36 1 (.slice (some ⟨g, 0, none⟩) rs.length c) rs.length V ∧ Hid (V.take kept.length = kept.map Row.v) ∧ Hid (∀ i, k + u - 1 ≤ i → V[i]? = (rs.map Row.v)[i]?) ∧ Hid (w.grownBy wq0 (some g))) (fun _ i2 _ => rs.length - k - (intOf i2).toNat)
        case atStart =>
          refine ⟨1, rs.take k, rs.map Row.v, by omega, by omega, rfl, by rw [List.length_take, Nat.min_eq_left hk], by rw [List.length_take]; omega, Lib.hid (by rw [HS.out, List.map_take]), HTS.out, hownq, Lib.hid (by rw [List.length_take, Nat.min_eq_left hk, List.map_take]), Lib.hid (fun _ _ => rfl), HGR⟩
        case round =>
          clear hownq
          obtain ⟨u, kept, V, hu0, hu, rfl, rfl, hkl, HKX, hsub, hV, HVT, HVR, HG⟩ := hrel
          obtain ⟨wo, rfl⟩ : ∃ wo : World, wo = wr := ⟨_, rfl⟩
          have hO3 : Own wo lo wo.heap.size rs [] := Own.kept HO.out (Nat.le_refl _) (by simp) (show w.grownBy wo (Value.slice (some ⟨g, 0, none⟩) rs.length c).ownBlock from HG.out)
          rcases Nat.lt_or_ge (k + u) rs.length with hul | hug
          · obtain ⟨q0, hq0⟩ : ∃ q : Row, q = rs[k + u] := ⟨_, rfl⟩
            obtain ⟨q1, hq1⟩ : ∃ q : Row, q = rs[k + (u - 1)]'(by omega) := ⟨_, rfl⟩
            have hq0m : q0 ∈ rs := by rw [hq0]; exact List.getElem_mem hul
            have hq1m : q1 ∈ rs := by rw [hq1]; exact List.getElem_mem _
            have c0 : wo.cell? ⟨g, k + u, none⟩ = some (Value.slice q0.A q0.xs.length q0.c) := by
              rw [hV.cellAt (k + u) (by omega), HVR.out (k + u) (by omega), List.getElem?_map, List.getElem?_eq_getElem hul, ← hq0]; rfl
            have c1 : wo.cell? ⟨g, k + (u - 1), none⟩ = some (Value.slice q1.A q1.xs.length q1.c) := by
              rw [hV.cellAt (k + (u - 1)) (by omega), HVR.out (k + (u - 1)) (by omega), List.getElem?_map, List.getElem?_eq_getElem (by omega), ← hq1]; rfl
            have c0d : wo.drew.cell? ⟨g, k + u, none⟩ = some (Value.slice q0.A q0.xs.length q0.c) := c0
            have c1d : wo.drew.cell? ⟨g, k + (u - 1), none⟩ = some (Value.slice q1.A q1.xs.length q1.c) := c1
            have i1 : IntKind.i64.wrap ((u : Int) - 1) = (u : Int) - 1 := IntWalk.i64_in _ (by omega)
            have i2 : ((u : Int) - 1).toNat = u - 1 := by omega
            have i3 : 0 ≤ (u : Int) - 1 := by omega
            have i4 : (u : Int) - 1 < ((rs.length - k : Nat) : Int) := by omega
            have i5 : (u : Int) < ((rs.length - k : Nat) : Int) := by omega
            have i6 : 0 ≤ (u : Int) := by omega
            have i7 : 1 ≤ (u : Int) := by omega
            have i8 : (u : Int) ≤ ((rs.length - k : Nat) : Int) := by omega
            have hy0 := ((hO3.read.rd q0 hq0m).dr (w' := wo.drew) (Dr.refl _).drew).more (B' := wo.drew.heap.size) (Nat.le_refl _)
            have hy1 := ((hO3.read.rd q1 hq1m).dr (w' := wo.drew) (Dr.refl _).drew).more (B' := wo.drew.heap.size) (Nat.le_refl _)
            have hm0 := HR8.out q0 hq0m
            have hm0' : q0.xs.length ≤ 4611686018427387904 := by omega
            have HT2 := Lib.hid (show compL ((rs.map Row.xs).take (k + u + 1)) = if q1.xs = q0.xs then compL ((rs.map Row.xs).take (k + u)) else compL ((rs.map Row.xs).take (k + u)) ++ [q0.xs] by
              have h1 := compL_take (rs.map Row.xs) (k + u) (by omega) (by simpa using hul)
              have h3 : (rs.map Row.xs)[k + u]'(by simpa using hul) = q0.xs := by rw [hq0]; simp
              have h4 : (rs.map Row.xs)[k + u - 1]'(by rw [List.length_map]; omega) = q1.xs := by rw [hq1]; simp only [List.getElem_map, show k + u - 1 = k + (u - 1) by omega]
              rw [h1, h3, h4])
            have HSL := Lib.hid (show kept.Sublist (rs.take (k + u + 1)) ∧ (kept ++ [q0]).Sublist (rs.take (k + u + 1)) by
              rw [List.take_succ_eq_append_getElem hul, ← hq0]
              exact ⟨hsub.trans (List.sublist_append_left _ _), hsub.append (List.Sublist.refl _)⟩)
            have hlen : ((rs.length - k : Nat) : Int) = (rs.length : Int) - (k : Int) := by omega
            have HLEN := Lib.hid hlen
            clear hlen hq0 hq1 hq0m hq1m hO3 hsub
            by_cases he : q0.xs = q1.xs
            · have HS2 := Lib.hid (show kept.map Row.xs = compL ((rs.map Row.xs).take (k + (u + 1))) by rw [show k + (u + 1) = k + u + 1 by omega, HT2.out, if_pos he.symm]; exact HKX.out)
              have HD := Lib.hid (decide_eq_true he)
              clear he
              go_wp2_with fail
              go_region_held3 (fun v => v.cell? ⟨g, k + u, none⟩ = some (Value.slice q0.A q0.xs.length q0.c) ∧ v.cell? ⟨g, k + (u - 1), none⟩ = some (Value.slice q1.A q1.xs.length q1.c)) (first | exact ⟨c0d, c1d⟩ | exact ⟨cq0, cq1⟩) ((first | (go_at_call 92; (with_reducible refine (equal_b _ _ _ _ _ _ _ _ wo.drew true rfl rfl hm0' hy0 hy1 HD.out).mono ?_); rintro e wq ⟨rfl, hdq⟩; have cq0 := (hdq.cell ⟨g, k + u, none⟩).trans c0d; have cq1 := (hdq.cell ⟨g, k + (u - 1), none⟩).trans c1d) | fail))
              have hdo := (Dr.refl wo).drew.trans hdq
              have hVq := hdo.own hV
              go_wp2_with fail
              go_roundw
              case rel => exact ⟨u + 1, kept, V, by omega, by omega, by go_num, rfl, by omega, HS2, HSL.out.1, hVq, HVT, Lib.hid (fun i hi => HVR.out i (by omega)), Lib.hid (grown_trans HG.out (below_grown (below_dr (Below.refl _ _) hdo)))⟩
              case measure => simp [intOf]; omega
            · have HS2 := Lib.hid (show (kept ++ [q0]).map Row.xs = compL ((rs.map Row.xs).take (k + (u + 1))) by
                rw [show k + (u + 1) = k + u + 1 by omega, HT2.out, if_neg (fun h => he h.symm), List.map_append, HKX.out]; rfl)
              have HD := Lib.hid (decide_eq_false he)
              clear he
              go_wp2_with fail
              go_region_held3 (fun v => v.cell? ⟨g, k + u, none⟩ = some (Value.slice q0.A q0.xs.length q0.c) ∧ v.cell? ⟨g, k + (u - 1), none⟩ = some (Value.slice q1.A q1.xs.length q1.c)) (first | exact ⟨c0d, c1d⟩ | exact ⟨cq0, cq1⟩) ((first | (go_at_call 92; (with_reducible refine (equal_b _ _ _ _ _ _ _ _ wo.drew false rfl rfl hm0' hy0 hy1 HD.out).mono ?_); rintro e wq ⟨rfl, hdq⟩; have cq0 := (hdq.cell ⟨g, k + u, none⟩).trans c0d; have cq1 := (hdq.cell ⟨g, k + (u - 1), none⟩).trans c1d) | fail))
              have hdo := (Dr.refl wo).drew.trans hdq
              have hVq := hdo.own hV
              have hVl := own_len hV
              have cz : wq.cell? ⟨g, kept.length, none⟩ = some (V[kept.length]'(by omega)) := by rw [hVq.cellAt kept.length (by omega)]; exact List.getElem?_eq_getElem (by omega)
              have fz : wq.frozen? ⟨g, kept.length, none⟩ = false := hVq.frozenAt kept.length
              have hVs := own_set_at hVq (show kept.length < rs.length by omega) (Value.slice q0.A q0.xs.length q0.c)
              have HVT2 := Lib.hid (show (V.set kept.length (Value.slice q0.A q0.xs.length q0.c)).take (kept ++ [q0]).length = (kept ++ [q0]).map Row.v by
                rw [List.length_append, List.length_singleton, List.take_succ_eq_append_getElem (by rw [List.length_set]; omega), List.take_set_of_le (Nat.le_refl _), HVT.out, List.getElem_set_self, List.map_append]; rfl)
              have HVR2 := Lib.hid (show ∀ i, k + (u + 1) - 1 ≤ i → (V.set kept.length (Value.slice q0.A q0.xs.length q0.c))[i]? = (rs.map Row.v)[i]? from fun i hi => by
                rw [List.getElem?_set_ne (by omega)]; exact HVR.out i (by omega))
              have HG2 := Lib.hid (show w.grownBy (wq.setCell ⟨g, kept.length, none⟩ (Value.slice q0.A q0.xs.length q0.c)) (some g) from grown_trans (grown_trans HG.out (below_grown (below_dr (Below.refl _ _) hdo))) (grown_set _ _ _ _))
              have j1 : (kept.length : Int) < (rs.length : Int) := by omega
              have HVS := Lib.hid hVs
              clear hVs hVq hdq cz fz
              have cz : wq.cell? ⟨g, kept.length, none⟩ = some (V[kept.length]'(by omega)) := by rw [(hdo.own hV).cellAt kept.length (by omega)]; exact List.getElem?_eq_getElem (by omega)
              have fz : wq.frozen? ⟨g, kept.length, none⟩ = false := (hdo.own hV).frozenAt kept.length
              clear hdo
              go_wp2_with fail
              go_roundw
              case rel => exact ⟨u + 1, kept ++ [q0], _, by omega, by omega, by go_num, by rw [List.length_append]; go_num, by rw [List.length_append, List.length_singleton]; omega, HS2, HSL.out.2, HVS.out, HVT2, HVR2, HG2⟩
              case measure => simp [intOf]; omega
          · obtain rfl : u = rs.length - k := by omega
            have hkn : k + (rs.length - k) = rs.length := by omega
            have HKF := Lib.hid (show kept.map Row.xs = compL (rs.map Row.xs) by
              have h1 := HKX.out
              rw [hkn, List.take_of_length_le (by simp)] at h1; exact h1)
            have hsubr : kept.Sublist rs := hsub.trans (List.take_sublist _ _)
            have hkl2 : kept.length < rs.length := by omega
            have hVl := own_len hV
            have hkc2 : ¬ c = kept.length := by omega
            have hsl3 : ∀ w, (Instr.slice 24 (.slice (some ⟨g, 0, none⟩) rs.length c) (some (.int .i64 (kept.length : Int))) none none).run Tryz.prog w = .ok (.slice (some ⟨g, kept.length, none⟩) (rs.length - kept.length) (c - kept.length)) w := fun w => by
              rw [run_cut (P := Tryz.prog) (t := 24) Tryz.underlying24 sizeL (some ⟨g, 0, none⟩) rs.length c kept.length (kept.length : Int) rfl (by omega) w]
              unfold cutA
              rw [if_neg hkc2]
              by_cases h0 : kept.length = 0 <;> simp [Addr.add, h0]
            have hcl : ∀ ty, (Builtin.clear_ #[24] ty #[.slice (some ⟨g, kept.length, none⟩) (rs.length - kept.length) (c - kept.length)]).run Tryz.prog wo = .ok (.tuple #[]) (wo.setCells g kept.length (List.replicate (rs.length - kept.length) (.slice none 0 0))) :=
              fun ty => Lib.run_clear_slice wo _ _ ty _ Tryz.underlying24 zeroL rfl rfl g kept.length _ _ (by omega) (fun j hj => by rw [hV.cellAt (kept.length + j) (by omega), List.getElem?_eq_getElem (by omega)]; rfl) (fun j _ => hV.frozenAt _)
            have hfin := own_sets (List.replicate (rs.length - kept.length) (Value.slice none 0 0)) kept.length wo (own_take hV (Nat.le_of_lt hkl2)) (Nat.le_refl _)
            rw [HVT.out] at hfin
            have hgw := grown_trans HG.out hfin.2
            have hOw := ((Own.kept HO.out (Nat.le_refl _) (by simp) (show w.grownBy _ (Value.slice (some ⟨g, 0, none⟩) rs.length c).ownBlock from hgw)).sub hsubr).with_ (A := some ⟨g, 0, none⟩) (c := c) (vs := kept.map Row.v) (by rw [List.length_map]; exact hfin.1) (Nat.le_refl _)
            have K := Lib.hid (And.intro hOw hgw)
            have hkcc : kept.length ≤ c := by omega
            clear hOw hgw hfin hsub hsubr hO3 hV
            go_wp2_with fail
            go_ret
            exact ⟨some ⟨g, 0, none⟩, c, kept, rfl, HKF.out, K.out.1, K.out.2⟩
      · have HS := Lib.hid (show compL ((rs.map Row.xs).take (k + 1)) = (rs.map Row.xs).take (k + 1) by
          rw [HT.out, HXk.out, HXk1.out, if_neg (fun h => he h.symm), HC.out, List.take_succ_eq_append_getElem (by simpa using hlt), HXk.out])
        have HD := Lib.hid (decide_eq_false he)
        clear he
        go_wp2_with fail
        go_region_held3 (fun v => v.cell? ⟨g, k, none⟩ = some ((Value.slice rs[k].A rs[k].xs.length rs[k].c)) ∧ v.cell? ⟨g, k - 1, none⟩ = some ((Value.slice (rs[k - 1]'(by omega)).A (rs[k - 1]'(by omega)).xs.length (rs[k - 1]'(by omega)).c))) (first | exact ⟨c0d, c1d⟩ | exact ⟨cq0, cq1⟩) ((first | (go_at_call 92; (with_reducible refine (equal_b _ _ _ _ _ _ _ _ wr.drew false rfl rfl hl0' hx0 hx1 HD.out).mono ?_); rintro e wq ⟨rfl, hdq⟩; have cq0 := (hdq.cell ⟨g, k, none⟩).trans c0d; have cq1 := (hdq.cell ⟨g, k - 1, none⟩).trans c1d) | fail))
        go_wp2_with fail
        go_roundw
        case rel => exact ⟨k + 1, by omega, by omega, by go_num, HS, (hd.trans (Dr.refl _).drew).trans hdq⟩
        case measure => simp [intOf]; omega
    · obtain rfl : k = rs.length := by omega
      have HE := Lib.hid (show compL (rs.map Row.xs) = rs.map Row.xs by have := HC.out; rwa [List.take_of_length_le (by simp)] at this)
      go_wp2_with fail
      go_ret
      exact ⟨_, c, rs, rfl, HE.out.symm, (HO.out.dr hd).wider (Nat.le_refl _) (by omega), below_grown (below_dr (Below.refl _ _) hd)⟩
end Go.Proofs.YtodloeonlaljpaaGreat

/- Contracts of without and ParentOf. -/
namespace Go.Proofs.YtodloeonlaljpaaGreat
set_option maxRecDepth 100000
open Go Go.RowKit

open Go.Lib Go.Sort in
theorem delete_own (g n c i base : Nat) (xs : List Int) (w : World) (h : w.ownsRow base 3 1 (.slice (some ⟨g, 0, none⟩) n c) n (xs.map (Value.int .i64))) (hi : i < n) :
    Calls Tryz.prog 124 #[.slice (some ⟨g, 0, none⟩) n c, .int .i64 i, .int .i64 ((i : Int) + 1)] w fun e w' => e = .returned (.slice (some ⟨g, 0, none⟩) (n - 1) c) ∧
      w'.ownsRow base 3 1 (.slice (some ⟨g, 0, none⟩) (n - 1) c) (n - 1) ((cutAt xs i).map (Value.int .i64)) ∧ ∀ B w0, Below B w0 w → B ≤ g → Below B w0 w' := by
  obtain ⟨g', cap, he, _, _, hc1, hc2, hl, hH⟩ := holds_of_ownsRow h (by simp)
  simp only [Value.slice.injEq, Option.some.injEq, Addr.mk.injEq, and_true, true_and] at he
  obtain ⟨rfl, rfl⟩ := he
  subst hl
  have hcc : c ≤ 9223372036854775807 := by unfold maxLen at hc2; omega
  have hD := Tryz.slices_Delete_int g 0 c i (i + 1) xs w hH hc1 hcc (by omega) (by omega)
  rw [show i + 1 - i = 1 by omega, show ((i + 1 : Nat) : Int) = (i : Int) + 1 from rfl] at hD
  refine hD.mono ?_
  rintro e w' ⟨rfl, q, rfl⟩
  have hlen : (xs.take i ++ xs.drop (i + 1) ++ List.replicate 1 0).length = xs.length := by
    rw [List.length_append, List.length_append, List.length_take, List.length_drop, List.length_replicate]; omega
  refine ⟨rfl, ?_, fun B w0 hb hB => below_putRow hb hB⟩
  have := ownsRow_putRow (q := q) (k := xs.length - 1) h hlen (by omega)
  have he : (xs.take i ++ xs.drop (i + 1) ++ List.replicate 1 0).take (xs.length - 1) = cutAt xs i := by
    rw [List.take_append_of_le_length (by rw [List.length_append, List.length_take, List.length_drop]; omega), List.take_of_length_le (by rw [List.length_append, List.length_take, List.length_drop]; omega)]
    rfl
  rw [he] at this
  exact this

set_option maxHeartbeats 400000 in
theorem without_impl (A : Option Addr) (c i : Nat) (xs : List Int) (w : World) (h : In w A c xs) (hi : i < xs.length) :
    Calls Tryz.prog 114 #[.slice A xs.length c, .int .i64 i] w (Ret (Value.int .i64) 3 w (patL (cutAt xs i))) := by
  have hl := h.len
  go_enter Tryz.func114, Tryz.ntmps114
  go_wp2_with fail
  (with_reducible refine (clone_any _ _ _ _ h).mono ?_)
  rintro e w1 ⟨T, t, rfl, _, _, o1, b1⟩
  obtain ⟨g, cap, hv, hg, _⟩ := o1.form (by omega)
  have hT : T = some ⟨g, 0, none⟩ := by injection hv
  subst hT
  clear hv
  go_wp2_with fail
  (with_reducible refine (delete_own g xs.length t i w.heap.size xs _ o1 hi).mono ?_)
  rintro e w2 ⟨rfl, o2, hB⟩
  have b2 := hB _ _ b1 hg
  have hlen := cutAt_length xs i hi
  have r2 : Rd (Value.int .i64) w2 w2.heap.size (some ⟨g, 0, none⟩) (cutAt xs i) := Rd.of_own (by rw [hlen]; exact o2)
  have hk : xs.length - 1 ≤ 1048576 := by omega
  clear hB
  go_wp2_with fail
  (with_reducible refine (pattern_impl _ _ _ (cutAt xs i) _ hlen hk r2).mono ?_)
  rintro e w3 ⟨T3, t3, rfl, k1, k2, o3, b3⟩
  go_wp2_with fail
  go_ret
  exact ⟨T3, t3, rfl, k1, k2, own_mono o3 b2.size, b2.trans (b3.mono b2.size)⟩

def parentL (xs : List Int) : List Int := xs.filter fun y => decide (y < (xs.length : Int))
def parentG (xs : List Int) : List Int := if permB xs = true ∧ xs.length ≠ 0 then parentL xs else []
def parentB (xs : List Int) : Bool := permB xs && decide (xs.length ≠ 0)
theorem parentG_length (xs : List Int) : (parentG xs).length ≤ 8 := by
  unfold parentG
  split
  · rename_i h
    have := (permB_true h.1).1
    exact Nat.le_trans (List.length_filter_le _ _) this
  · simp


end Go.Proofs.YtodloeonlaljpaaGreat

/- slices.SortFunc of a list of rows; ordered. -/
namespace Go.Proofs.YtodloeonlaljpaaGreat
set_option maxRecDepth 100000
open Go Go.RowKit

theorem before_ntrans {x y z : List Int} (h1 : before x y = false) (h2 : before y z = false) : before x z = false := by
  cases h : before x z with
  | false => rfl
  | true =>
    cases h3 : before y x with
    | true => rw [before_trans h3 h] at h2; cases h2
    | false =>
      have e := before_total h1 h3
      subst e
      rw [h] at h2; cases h2
theorem permIn_list {α : Type} [Inhabited α] {d d' : Array α} (h : Sort.PermIn 0 d.size d d') : d'.toList.Perm d.toList := by
  have h1 := h.2.2
  have e1 : d'.extract 0 d.size = d' := by rw [← h.1]; exact Array.extract_size
  have e2 : d.extract 0 d.size = d := Array.extract_size
  rw [e1, e2] at h1
  exact h1
theorem sortedIn_list {α : Type} [Inhabited α] {lt : α → α → Bool} {d : Array α} {n : Nat} (hn : d.size = n) (h : Sort.SortedIn lt 0 n d) : d.toList.Pairwise fun x y => lt y x = false := by
  rw [List.pairwise_iff_getElem]
  intro i j hi hj hij
  rw [Array.length_toList] at hi hj
  have := h i j (Nat.zero_le _) hij (by omega)
  rw [getElem!_pos d j hj, getElem!_pos d i hi] at this
  simpa using this
/-- The row's cells in a world that the sort passes through. -/
theorem rd_sortWorld {α : Type} [Inhabited α] {enc : α → Value} {w : World} {blk m : Nat} {dk : Array α} {os : Array Obj} {A : Option Addr} {xs : List Int} (h : Rd (Value.int .i64) w w.heap.size A xs) (hne : ∀ b off, A = some ⟨b, off, none⟩ → 0 < xs.length → b ≠ blk) :
    Rd (Value.int .i64) (sortWorld enc w blk 0 m dk os) (sortWorld enc w blk 0 m dk os).heap.size A xs := fun h0 => by
  obtain ⟨b, off, rfl, hb, hc⟩ := h h0
  have hn := hne b off rfl h0
  have hs : (Sort.putRow enc (Sort.ahead w m) blk 0 dk).heap.size = w.heap.size := by simp [Sort.putRow, Sort.mapBlock, Sort.ahead]
  refine ⟨b, off, rfl, ?_, fun j hj => ?_⟩
  · show b < (Sort.grow (Sort.putRow enc (Sort.ahead w m) blk 0 dk) os).heap.size
    simp only [Sort.grow, Array.size_append, hs]
    omega
  · have h1 : (Sort.putRow enc (Sort.ahead w m) blk 0 dk).cell? ⟨b, off + j, none⟩ = some (.int .i64 xs[j]) :=
      (Sort.cell?_putRow_other enc (Sort.ahead w m) blk 0 dk ⟨b, off + j, none⟩ (Or.inl hn)).trans (hc j hj)
    exact cell_grown (show b < _ by rw [hs]; exact hb) h1 0 os
theorem grow_below (W : World) (os : Array Obj) : Below W.heap.size W (Sort.grow W os) := ⟨rfl, rfl, rfl, by simp [Sort.grow], fun k hk => by simp [Sort.grow, Array.getElem?_append, hk]⟩
theorem putRow_grown {α : Type} [Inhabited α] (enc : α → Value) (w : World) (q g : Nat) (d : Array α) : w.grownBy (Sort.putRow enc (Sort.ahead w q) g 0 d) (some g) :=
  ⟨rfl, rfl, rfl, by simp [Sort.putRow, Sort.mapBlock, Sort.ahead], fun k _ hne => by
    have hk : g ≠ k := fun e => hne (by rw [e])
    simp [Sort.putRow, Sort.mapBlock, Sort.ahead, Array.getElem?_modify, hk]⟩
theorem sort_none (p : Option Addr) (c : Nat) (fv : Value) (w : World) : Calls Tryz.prog 90 #[.slice p 0 c, fv] w fun e w' => e = .returned (.tuple #[]) ∧ w' = w :=
  AnyF.slices_SortFunc_none { Tryz.sortF with } p c fv w
set_option maxHeartbeats 1000000 in
theorem sort_any (A : Option Addr) (c lo : Nat) (rs : List Row) (w : World) (F : Nat) (cf : List Int → List Int → Int) (hO : Own w lo w.heap.size rs [⟨A, c, rs.map Row.v⟩]) (hn : rs.length ≤ 1048576)
    (hF : ∀ args w, (callFunc F args).run Tryz.prog w = .ok (.enter F args) w)
    (hcf : ∀ x ∈ rs, ∀ y ∈ rs, decide (cf x.xs y.xs < 0) = before x.xs y.xs)
    (hcmp : ∀ (W : World) (x y : Row), x ∈ rs → y ∈ rs → Rd (Value.int .i64) W W.heap.size x.A x.xs → Rd (Value.int .i64) W W.heap.size y.A y.xs → Calls Tryz.prog F #[x.v, y.v] W fun e w' => e = .returned (.int .i64 (cf x.xs y.xs)) ∧ ∃ q os', w' = Sort.grow (W.drewN q) os') :
    Calls Tryz.prog 90 #[.slice A rs.length c, .func (.func F) #[] #[]] w fun e w' => e = .returned (.tuple #[]) ∧ ∃ rs' : List Row, rs'.Perm rs ∧ (rs'.map Row.xs).Pairwise (fun x y => before y x = false) ∧ Own w' lo w'.heap.size rs' [⟨A, c, rs'.map Row.v⟩] ∧ w.grownBy w' (Value.slice A 0 0).ownBlock := by
  rcases Nat.eq_zero_or_pos rs.length with h0 | h0
  · have hr : rs = [] := List.eq_nil_of_length_eq_zero h0
    subst hr
    refine (sort_none A c _ w).mono ?_
    rintro e w' ⟨rfl, rfl⟩
    exact ⟨rfl, [], List.Perm.refl _, List.Pairwise.nil, hO, World.grownBy.refl _ _⟩
  obtain ⟨g, hgA, hglo, hglt⟩ : ∃ g, A = some ⟨g, 0, none⟩ ∧ lo ≤ g ∧ g < w.heap.size := by
    obtain ⟨g, cap, hv, h1, h3⟩ := hO.out.form (by rw [List.length_map]; omega)
    injection hv with hv _ _
    exact ⟨g, hv, h1, h3⟩
  subst hgA
  let α := {r : Row // r ∈ rs}
  haveI : Inhabited α := ⟨⟨rs[0], List.getElem_mem h0⟩⟩
  let enc : α → Value := fun r => r.1.v
  have hz : (rs.attach : List α).map enc = rs.map Row.v := by
    show rs.attach.map (fun r => Row.v r.1) = _
    rw [show (fun r : {r : Row // r ∈ rs} => Row.v r.1) = Row.v ∘ Subtype.val from rfl, ← List.map_map, List.attach_map_subtype_val]
  have hown : w.ownsRow lo 36 1 (.slice (some ⟨g, 0, none⟩) rs.length c) rs.length ((rs.attach : List α).map enc) := by
    rw [hz]; exact hO.outN (by simp)
  obtain ⟨g', cap', hv', _, _, _, _, _, hH⟩ := Lib.holds_of_ownsRow hown (by simp)
  injection hv' with hv1 _ _
  injection hv1 with hv1
  injection hv1 with hv1 _ _
  subst hv1
  let cfa : α → α → Int := fun a b => cf a.1.xs b.1.xs
  have hlt : ∀ a b : α, ltOf cfa a b = before a.1.xs b.1.xs := fun a b => hcf a.1 a.2 b.1 b.2
  have hS : Sort.SWO (ltOf cfa) := ⟨fun x => by rw [hlt]; exact before_irrefl _, fun x y z h1 h2 => by rw [hlt] at *; exact before_trans h1 h2, fun x y z h1 h2 => by rw [hlt] at *; exact before_ntrans h1 h2⟩
  have hrd : ∀ (r : Row), r ∈ rs → ∀ (m : Nat) (os : Array Obj) (dk : Array α), Rd (Value.int .i64) (sortWorld enc w g 0 m dk os) (sortWorld enc w g 0 m dk os).heap.size r.A r.xs := fun r hr m os dk =>
    rd_sortWorld (hO.read.rd r hr) (fun b off he _ hbg => by
      subst hbg
      exact own_ne hO hr (List.mem_singleton.2 rfl) b (by show (Value.slice r.A _ _).ownBlock = _; rw [he]; rfl) rfl)
  have hC : CmpLays1 Tryz.prog F #[] enc cfa g 0 (rs.attach : List α).toArray.size w := fun m os dk _ x y =>
    hcmp (sortWorld enc w g 0 m dk os) x.1 y.1 x.2 y.2 (hrd x.1 x.2 m os dk) (hrd y.1 y.2 m os dk)
  have hsz : (rs.attach : List α).toArray.size = rs.length := by simp
  have h := Any.slices_SortFunc Tryz.sortF enc (fun _ => rfl) cfa hS F #[] g 0 c (rs.attach : List α).toArray w hF hC hH hglt (by rw [hsz]; omega)
  rw [hsz] at h
  refine Calls.mono h ?_
  rintro e w' ⟨rfl, d', n, os, hp, hs, rfl⟩
  have hd' : d'.size = rs.length := by
    have := hp.1
    rw [← hsz]; exact this
  have hp' : Sort.PermIn 0 (rs.attach : List α).toArray.size (rs.attach : List α).toArray d' := by rw [hsz]; exact hp
  have hpl := permIn_list hp'
  have hperm : (d'.toList.map Subtype.val).Perm rs := by
    have h1 := hpl.map Subtype.val
    have e : ((rs.attach : List α).toArray.toList).map Subtype.val = rs := by simp
    rwa [e] at h1
  have hsl := sortedIn_list hd' hs
  refine ⟨rfl, d'.toList.map Subtype.val, hperm, ?_, ?_, ?_⟩
  · rw [List.map_map, List.pairwise_map]
    exact hsl.imp fun {a b} hab => by rw [hlt] at hab; exact hab
  · have hg1 := putRow_grown enc w n g d'
    have hbg : Below (Sort.putRow enc (Sort.ahead w n) g 0 d').heap.size (Sort.putRow enc (Sort.ahead w n) g 0 d') (sortWorld enc w g 0 n d' os) := grow_below _ os
    have hrows := (Own.kept hO (Nat.le_refl _) (show (rs.map Row.v).length = rs.length by simp) (show w.grownBy _ (Value.slice (some ⟨g, 0, none⟩) rs.length c).ownBlock from hg1)).below hbg
    have hout := Lib.ownsRow_putRow (q := n) (k := rs.length) (ys := d'.toList) hown (by simpa using hd') (Nat.le_refl _)
    rw [List.take_of_length_le (by simp [hd'])] at hout
    have hout2 := own_below hout hbg
    have he : d'.toList.map enc = (d'.toList.map Subtype.val).map Row.v := by rw [List.map_map]; rfl
    refine ((hrows.perm hperm.symm).wider (Nat.le_refl _) hbg.size).with_ (A := some ⟨g, 0, none⟩) (c := c) ?_ (Nat.le_refl _)
    rw [← he, List.length_map, Array.length_toList, hd']
    exact hout2
  · exact grown_trans (putRow_grown enc w n g d') (below_grown (grow_below _ os))
theorem grow_alloc (w : World) (o : Obj) : w.alloc o = Sort.grow (w.drewN 0) #[o] := by
  show ({ w with heap := w.heap.push o } : World) = { w with heap := w.heap ++ #[o] }
  rw [Array.push_eq_append]
set_option maxHeartbeats 800000 in
theorem comparePerms_x (A A' : Option Addr) (c c' : Nat) (p q : List Int) (w : World) (hl : p.length ≤ 1048576) (hl' : q.length ≤ 1048576)
    (hx : Rd (Value.int .i64) w w.heap.size A p) (hy : Rd (Value.int .i64) w w.heap.size A' q) :
    Calls Tryz.prog 72 #[.slice A p.length c, .slice A' q.length c'] w fun e w' => e = .returned (.int .i64 (cmpP p q)) ∧ ∃ q os', w' = Sort.grow (w.drewN q) os' := by
  have HO := Lib.hid (cmpP_or p q)
  have HG := Lib.hid (grow_alloc w (Obj.cells #[.int .i64 (cmpI p.length q.length), .int .i64 (cmpL p q)] 3))
  have hnew : Rd (Value.int .i64) (w.alloc (Obj.cells #[.int .i64 (cmpI p.length q.length), .int .i64 (cmpL p q)] 3)) (w.alloc (Obj.cells #[.int .i64 (cmpI p.length q.length), .int .i64 (cmpL p q)] 3)).heap.size (some ⟨w.heap.size, 0, none⟩) [cmpI p.length q.length, cmpL p q] :=
    Rd.of_own (c := 2) (World.ownsRow_lit (base := w.heap.size) w #[.int .i64 (cmpI p.length q.length), .int .i64 (cmpL p q)] 2 (Nat.le_refl _) (by unfold maxLen; omega) rfl)
  go_enter Tryz.func72, Tryz.ntmps72
  go_wp2_with fail
  (with_reducible refine (compare_any (p.length : Int) (q.length : Int) w).mono ?_)
  rintro e w' ⟨rfl, rfl⟩
  go_wp2_with fail
  (with_reducible refine (compareS_any A A' c c' p.length q.length p q w rfl rfl (by omega) (by omega) hx hy).mono ?_)
  rintro e w' ⟨rfl, rfl⟩
  go_wp2_with fail
  (with_reducible refine (or_any (some ⟨w.heap.size, 0, none⟩) 2 2 [cmpI p.length q.length, cmpL p q] _ rfl (by omega) hnew).mono ?_)
  rintro e w' ⟨rfl, rfl⟩
  go_wp2_with fail
  go_ret
  exact ⟨ret_int HO.out, 0, _, HG.out⟩
theorem call_cmpP (args : Array Value) (w : World) : (callFunc 72 args).run Tryz.prog w = .ok (.enter 72 args) w := by kernel_rfl
set_option maxHeartbeats 2000000 in
theorem ordered_impl (A : Option Addr) (c : Nat) (rs : List Row) (w : World) (h : InL w A c rs) :
    Calls Tryz.prog 49 #[.slice A rs.length c] w (RetL w (ordL (rs.map Row.xs))) := by
  obtain ⟨j0, hj, hy0, hy1, hy2⟩ := info_parts infoL
  have hlen := h.len
  have hlit := Own.lit (lo := w.heap.size) w (Nat.le_refl _)
  have hb0 := (Below.refl w.heap.size w).alloc (Nat.le_refl _) (.cells #[] 36)
  go_enter Tryz.func49, Tryz.ntmps49
  go_wp2_with fail
  go_loopw [3, 9] (fun v i wr => ∃ (k : Nat) (A1 : Option Addr) (c1 : Nat) (ds : List Row), k ≤ rs.length ∧ i = .int .i64 k ∧ v = .slice A1 ds.length c1 ∧ Hid (ds.map Row.xs = (rs.map Row.xs).take k) ∧ Own wr w.heap.size wr.heap.size ds [⟨A1, c1, ds.map Row.v⟩] ∧ Below w.heap.size w wr) (fun _ i _ => rs.length - (intOf i).toNat)
  case atStart => exact ⟨0, _, _, [], Nat.zero_le _, rfl, rfl, Lib.hid rfl, hlit, hb0⟩
  case round =>
    clear hlit hb0
    obtain ⟨k, A1, c1, ds, hk, rfl, rfl, HX, hO, hb⟩ := hrel
    have hdl : ds.length = k := by have := congrArg List.length HX.out; simp at this; omega
    have hsz := hb.size
    rcases Nat.lt_or_ge k rs.length with hlt | hge
    · obtain ⟨b, off, rfl, _, hc⟩ := (h.next hb).read.at (by omega)
      have c1' := hc k hlt
      have hin := (h.next hb).row (List.getElem_mem hlt)
      have hrl := hin.len
      have HD := Lib.hid hdl
      have hkd : ds.length ≤ 1048576 := by omega
      have HT := Lib.hid (show (rs.map Row.xs).take (k + 1) = (rs.map Row.xs).take k ++ [rs[k].xs] by rw [List.take_succ_eq_append_getElem (by simpa using hlt)]; simp)
      clear hc hdl
      go_wp2_with fail
      (with_reducible refine (clone_any rs[k].A rs[k].c rs[k].xs wr hin).mono ?_)
      rintro e w1 ⟨A3, c3, rfl, _, _, own3, hbB⟩
      have hszB := hbB.size
      have hO2 := (hO.below hbB).add (r := ⟨A3, c3, rs[k].xs⟩) own3 hszB hsz
      have ho2 := hO2.outN (n := ds.length) (by simp)
      clear own3 hO
      go_wp2_with (at_builtin; refine wpList_append_own _ rfl _ _ 24 rfl (w.heap.size) 36 j0 (.slice none 0 0) 1 24 Tryz.underlying24 hj hy0 hy1 hy2 rfl (by decide) _ _ _ rfl (World.ownsRow.alloc ho2 _) ⟨w1.heap.size, 0, none⟩ 1 1 [Value.slice A3 rs[k].xs.length c3] rfl rfl (cell_one_at _ _ (by simp)) (by intro u hu; simp at hu; subst hu; rfl) (by unfold maxLen; omega) (by omega) (by simp; omega) ?_; intro v9 w9 hown9 hgrow9 _)
      obtain ⟨A5, c5, rfl, hO3, hg3⟩ := hO2.grow (Nat.le_refl _) (by simp) hown9 hgrow9
      have hbw := (hb.trans (hbB.mono hsz)).grown hg3 (by omega) (fun g hg => (hO2.olim (by simp) g hg).1)
      have K := Lib.hid (And.intro hO3 hbw)
      clear hO3 hbw hown9 hgrow9 hg3 hO2 ho2 hbB hb
      go_wp2_with fail
      go_roundw
      case rel => exact ⟨k + 1, A5, c5, ds ++ [⟨A3, c3, rs[k].xs⟩], by omega, by go_num, by rw [List.length_append]; rfl, Lib.hid (by rw [HT.out, List.map_append, HX.out]; rfl), by simpa [Row.v] using K.out.1, K.out.2⟩
      case measure => simp [intOf]; omega
    · obtain rfl : k = rs.length := by omega
      have HT := Lib.hid (show ds.map Row.xs = rs.map Row.xs by rw [HX.out]; exact List.take_of_length_le (by simp))
      have hr8 : ∀ r ∈ ds, r.xs.length ≤ 1048576 := fun r hr => by
        have h1 := map_memX HT.out hr
        obtain ⟨q, hq, he⟩ := List.mem_map.1 h1
        have h2 := sizeR_mem hq
        rw [← he]; omega
      have hS := sort_any A1 c1 w.heap.size ds wr 72 cmpP (hO.wider (Nat.le_refl _) (Nat.le_refl _)) (by omega) (fun args w => call_cmpP args w) (fun x _ y _ => (before_cmp x.xs y.xs).symm) (fun W x y hx hy h1 h2 => comparePerms_x x.A y.A x.c y.c x.xs y.xs W (hr8 x hx) (hr8 y hy) h1 h2)
      have HS := Lib.hid hS
      have hdl2 : ds.length ≤ 1048576 := by omega
      have HR8 := Lib.hid hr8
      have hA1 := hO.olim (n := ds.length) (by simp)
      clear hS hr8 hO hdl HX
      go_wp2_with fail
      (with_reducible refine HS.out.mono ?_)
      rintro e w1 ⟨rfl, ss, hperm, hsorted, hO1, hg1⟩
      have hsl : ss.length = ds.length := hperm.length_eq
      have HE := Lib.hid (show compL (ss.map Row.xs) = ordL (rs.map Row.xs) from comp_ord hsorted (fun q => by rw [← HT.out, List.mem_map, List.mem_map]; constructor <;> rintro ⟨r, hr, he⟩; exact ⟨r, hperm.mem_iff.1 hr, he⟩; exact ⟨r, hperm.mem_iff.2 hr, he⟩))
      have hC := compact_any A1 c1 w.heap.size ss w1 hO1 (by omega) (fun r hr => HR8.out r (hperm.mem_iff.1 hr))
      rw [hsl] at hC
      have HC := Lib.hid hC
      have hb1 := hb.grown hg1 hsz (fun g hg => (hA1 g (by rw [← hg]; exact ownBlock_len _ _ _ _ _)).1)
      have HG1 := Lib.hid hA1
      have hs1 := hb1.size
      clear hC hperm hsorted hO1 hg1 hsl hA1 HS
      go_wp2_with fail
      (with_reducible refine HC.out.mono ?_)
      rintro e w2 ⟨A4, c4, qs, rfl, hX4, hO4, hg4⟩
      have hb2 := hb1.grown hg4 hs1 (fun g hg => (HG1.out g (by rw [← hg]; exact ownBlock_len _ _ _ _ _)).1)
      go_wp2_with fail
      go_ret
      exact ⟨A4, c4, qs, rfl, by rw [hX4, HE.out], hO4, hb2⟩
end Go.Proofs.YtodloeonlaljpaaGreat
