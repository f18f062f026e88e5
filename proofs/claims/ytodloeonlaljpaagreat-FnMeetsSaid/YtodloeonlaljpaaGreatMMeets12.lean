/- Several texts in one, each with its own head: WMeets, Open. No program of ours. -/
import Derived.Deep.RegionHeld3
import Derived.Test.YtodloeonlaljpaaGreatRows
import Derived.ProofKit
import Derived.OpenShut
import Derived.Deep.Matrix
import Derived.Test.YtodloeonlaljpaaGreatMMeets11
/- The walk of FnMeets. Written by gen/genwe.py. -/
namespace Go.Proofs.YtodloeonlaljpaaGreat
set_option maxRecDepth 100000
open Go Go.RowKit

theorem rows_fit {rs : List Row} {X : List (List Int)} (hX : rs.map Row.xs = X) (h : X.length + sizeX X ≤ 1048576) : rs.length + sizeR rs ≤ 1048576 := by
  subst hX
  rw [sizeR_eq]
  simpa using h
theorem inClass_sq {b : Bool} (A : Option Addr) (c : Nat) (rs : List Row) (B : Option Addr) (d : Nat) (p : List Int) (w : World) (h : InL w A c rs) (hp : In w B d p) (hb : inClassB (rs.map Row.xs) p = b) :
    Calls Tryz.prog 27 #[.slice A rs.length c, .slice B p.length d] w (Rb w (.bool b)) := by subst hb; exact inClass_spec A c rs B d p w h hp
theorem within_iq {b : Bool} (A : Option Addr) (c : Nat) (rs : List Row) (B : Option Addr) (d : Nat) (qs : List Row) (w : World) (h : InL w A c rs) (hq : InL w B d qs) (hb : withinB (rs.map Row.xs) (qs.map Row.xs) = b) :
    Calls Tryz.prog 25 #[.slice A rs.length c, .slice B qs.length d] w (Rb w (.bool b)) := by subst hb; exact within_impl A c rs B d qs w h hq
theorem beyond_in {X Y : List (List Int)} {n : Int} (h : fbG2 X Y n = true) : inClassB X (fbG1 X Y n) = true ∧ inClassB Y (fbG1 X Y n) = false ∧ withinB X Y = false := by
  obtain ⟨h1, h2, h3, h4, h5⟩ := beyond_facts h
  refine ⟨?_, ?_, beyond_within h1 h4 h5 h2 h3⟩
  · unfold inClassB; rw [h4, h1, h2]; rfl
  · unfold inClassB; rw [h3, Bool.and_false]
theorem meet_facts {X Y : List (List Int)} (h : meB X Y = true) : withinB (meG X Y) X = true ∧ withinB (meG X Y) Y = true ∧ ∀ z, permB z = true → inClassB (meG X Y) z = (inClassB X z && inClassB Y z) := by
  have h0 := h
  unfold meB at h
  simp only [Bool.and_eq_true] at h
  obtain ⟨⟨hX, hY⟩, hm⟩ := h
  have e : meG X Y = mkG (X ++ Y) := by unfold meG; rw [hX, hY]; rfl
  rw [e]
  refine ⟨meet_within hm hX fun q hq => by simp [hq], meet_within hm hY fun q hq => by simp [hq], fun z hz => ?_⟩
  unfold inClassB
  rw [hX, hY, hz, (mk_facts hm).1, meet_avoid hm hz]
  simp
theorem sym_counts {X : List (List Int)} {k : Int} (h : symB X k = true) : ccG (symG X k) 4 = ccG X 4 := by
  have h0 := h
  unfold symB at h
  rw [Bool.and_eq_true] at h
  have e : symG X k = ordL (symM X k.toNat) := by unfold symG; rw [if_pos h0]
  have h6 : sixB 4 = true := rfl
  unfold ccG
  rw [e, if_pos ⟨sym_basis h.1 _, h6⟩, if_pos ⟨h.1, h6⟩]
  refine List.map_congr_left fun j hj => ?_
  have hj := List.mem_range.1 hj
  rw [sym_count h.1 _ j (by simp at hj; omega)]
theorem few_counts (X : List (List Int)) : (ccG X 4).length ≤ 1048576 := ccG_le X 4
theorem permsL_4 {z : List Int} (h : z ∈ permsL 4) : permB z = true ∧ z.length ≤ 4 := by
  have := permsL_perm (by omega) h
  exact ⟨this.1, by omega⟩
def FInv (X : List (List Int)) (k u d : Nat) : Prop := (u = 0 → ∀ q ∈ X.take k, riseB q = false) ∧ (0 < u → nums u ∈ X) ∧ (d = 0 → ∀ q ∈ X.take k, fallB q = false) ∧ (0 < d → (nums d).reverse ∈ X)
theorem finv_zero (X : List (List Int)) : FInv X 0 0 0 := ⟨fun _ q h => by simp at h, fun h => by omega, fun _ q h => by simp at h, fun h => by omega⟩
theorem finv_succ {X : List (List Int)} {k u d : Nat} (h : FInv X k u d) (hk : k < X.length) (hne : X[k].length ≠ 0) : FInv X (k + 1) (if riseB X[k] = true then X[k].length else u) (if fallB X[k] = true then X[k].length else d) := by
  obtain ⟨h1, h2, h3, h4⟩ := h
  have hm := List.getElem_mem hk
  refine ⟨fun h q hq => ?_, fun h => ?_, fun h q hq => ?_, fun h => ?_⟩
  · split at h
    · exact absurd h hne
    · rename_i hr
      rw [List.take_succ_eq_append_getElem hk, List.mem_append] at hq
      rcases hq with hq | hq
      · exact h1 h q hq
      · rw [List.mem_singleton] at hq; rw [hq]; simpa using hr
  · split at h
    · rename_i hr
      rw [if_pos hr]
      unfold riseB at hr
      rw [← of_decide_eq_true hr]
      exact hm
    · rename_i hr
      rw [if_neg hr]
      exact h2 h
  · split at h
    · exact absurd h hne
    · rename_i hr
      rw [List.take_succ_eq_append_getElem hk, List.mem_append] at hq
      rcases hq with hq | hq
      · exact h3 h q hq
      · rw [List.mem_singleton] at hq; rw [hq]; simpa using hr
  · split at h
    · rename_i hr
      rw [if_pos hr]
      unfold fallB at hr
      rw [← of_decide_eq_true hr]
      exact hm
    · rename_i hr
      rw [if_neg hr]
      exact h4 h
theorem finv_end {X : List (List Int)} {u d : Nat} (h : FInv X X.length u d) (hf : finG X = true) : 0 < u ∧ 0 < d ∧ nums u ∈ X ∧ (nums d).reverse ∈ X ∧ u ≤ 8 ∧ d ≤ 8 ∧ basisB X = true := by
  obtain ⟨h1, h2, h3, h4⟩ := h
  unfold finG at hf
  simp only [Bool.and_eq_true, List.any_eq_true] at hf
  obtain ⟨⟨hB, q, hq, hr⟩, q', hq', hf'⟩ := hf
  rw [List.take_length] at h1 h3
  have hu : 0 < u := by
    rcases Nat.eq_zero_or_pos u with h | h
    · rw [h1 h q hq] at hr; cases hr
    · exact h
  have hd : 0 < d := by
    rcases Nat.eq_zero_or_pos d with h | h
    · rw [h3 h q' hq'] at hf'; cases hf'
    · exact h
  have a := (permB_true (basis_perm hB _ (h2 hu))).1
  have b := (permB_true (basis_perm hB _ (h4 hd))).1
  rw [List.length_reverse] at b
  simp only [nums, List.length_map, List.length_range] at a b
  exact ⟨hu, hd, h2 hu, h4 hd, a, b, hB⟩
theorem fin_none {X : List (List Int)} {u d : Nat} (hB : basisB X = true) (hu : nums (u + 1) ∈ X) (hd : (nums (d + 1)).reverse ∈ X) (hu8 : u < 8) (hd8 : d < 8) (h6 : u * d < 6) : clG X (((u * d : Nat) : Int) + 1) = [] := by
  unfold clG
  rw [show ((u * d : Nat) : Int) + 1 = ((u * d + 1 : Nat) : Int) by omega, Int.toNat_natCast]
  split
  · exact finite_none hu hd hu8 hd8 h6
  · rfl

set_option maxHeartbeats 16000000 in
set_option maxRecDepth 100000 in
theorem walk_FnMeets (w : World) (A : Option Addr) (c : Nat) (bs : List Int) (hm : bs.length ≤ 9223372036854775807) (hr : Rd (Value.int .u8) w w.heap.size A bs) :
    Calls Tryz.prog 3 #[.slice A bs.length c] w (Rb w (.bool true)) := by
  obtain ⟨i0, hi, hz0, hz1, hz2⟩ := info_parts infoI
  rcases Nat.lt_or_ge 1048576 bs.length with hbig | hlen
  · have HC := Lib.hid (big_no A c bs w hbig hm)
    go_enter Tryz.func3, Tryz.ntmps3
    go_wp2_with fail
    (with_reducible refine HC.out.mono ?_)
    rintro e w1 ⟨rfl, rfl⟩
    go_wp2_with fail
    go_ret
    exact ⟨rfl, Below.refl _ _⟩
  have h0 : InY w A c bs := ⟨hlen, hr⟩
  have HC := Lib.hid (big_ok A c bs w hlen)
  clear hr hm
  go_enter Tryz.func3, Tryz.ntmps3
  go_wp2_with fail
  (with_reducible refine HC.out.mono ?_)
  rintro e w0 ⟨rfl, rfl⟩
  clear HC
  have HB := Below.refl w.heap.size w
  have HC := Lib.hid (drawMeetClasses A c bs w h0)
  go_wp2_with fail
  (with_reducible refine HC.out.mono ?_)
  rintro e x1 ⟨A1, a1, as1, B1, b1, bs1, rfl, ia, ib, hb⟩
  clear HC
  replace h0 := h0.next hb
  replace HB := HB.trans (hb.mono HB.size)
  clear hb
  have HC := Lib.hid (meet_impl A1 a1 as1 B1 b1 bs1 x1 ia ib)
  go_wp2_with fail
  (with_reducible refine HC.out.mono ?_)
  rintro e x2 ⟨mA, mk, mr, rfl, hXm, hOm, hb⟩
  clear HC
  have Hm := Lib.hid hXm
  have im := hOm.read.toL (rows_fit hXm (meG_le _ _)) (Nat.le_refl _)
  clear hXm hOm
  replace h0 := h0.next hb
  replace ia := ia.next hb
  replace ib := ib.next hb
  replace HB := HB.trans (hb.mono HB.size)
  clear hb
  have HC := Lib.hid (meet_spec A1 a1 as1 B1 b1 bs1 x2 ia ib)
  go_wp2_with fail
  (with_reducible refine HC.out.mono ?_)
  rintro e x3 ⟨vA, vk, vr, rfl, hXv, hOv, hb⟩
  clear HC
  have Hv := Lib.hid hXv
  have iv := hOv.read.toL (rows_fit hXv (meG_le _ _)) (Nat.le_refl _)
  clear hXv hOv
  replace h0 := h0.next hb
  replace ia := ia.next hb
  replace ib := ib.next hb
  replace im := im.next hb
  replace HB := HB.trans (hb.mono HB.size)
  clear hb
  have HC := Lib.hid (dDrawUnionUpTo A c bs x3 h0)
  go_wp2_with fail
  (with_reducible refine HC.out.mono ?_)
  rintro e x4 ⟨C1, c1, cs1, D1, d1, ds1, n, rfl, hn0, hn1, ic, id, hb⟩
  clear HC
  replace h0 := h0.next hb
  replace ia := ia.next hb
  replace ib := ib.next hb
  replace im := im.next hb
  replace iv := iv.next hb
  replace HB := HB.trans (hb.mono HB.size)
  clear hb
  have HC := Lib.hid (unionUpTo_impl C1 c1 cs1 D1 d1 ds1 n (by omega) x4 ic id)
  go_wp2_with fail
  (with_reducible refine HC.out.mono ?_)
  rintro e x5 ⟨uA, uk, ur, rfl, hXu, hOu, hb⟩
  clear HC
  have Hu := Lib.hid hXu
  have iu := hOu.read.toL (rows_fit hXu (unG_le _ _ _)) (Nat.le_refl _)
  clear hXu hOu
  replace h0 := h0.next hb
  replace ia := ia.next hb
  replace ib := ib.next hb
  replace im := im.next hb
  replace iv := iv.next hb
  replace ic := ic.next hb
  replace id := id.next hb
  replace HB := HB.trans (hb.mono HB.size)
  clear hb
  have HC := Lib.hid (drawSymmetryBasis A c bs x5 h0)
  go_wp2_with fail
  (with_reducible refine HC.out.mono ?_)
  rintro e x6 ⟨L, lk, ls, k, rfl, hk0, hk1, il, hb⟩
  clear HC
  replace h0 := h0.next hb
  replace ia := ia.next hb
  replace ib := ib.next hb
  replace im := im.next hb
  replace iv := iv.next hb
  replace ic := ic.next hb
  replace id := id.next hb
  replace iu := iu.next hb
  replace HB := HB.trans (hb.mono HB.size)
  clear hb
  have HC := Lib.hid (symBasis_impl L lk ls k (by omega) x6 il)
  go_wp2_with fail
  (with_reducible refine HC.out.mono ?_)
  rintro e x7 ⟨sA, sk, sr, rfl, hXs, hOs, hb⟩
  clear HC
  have Hs := Lib.hid hXs
  have is := hOs.read.toL (rows_fit hXs (symG_le _ _)) (Nat.le_refl _)
  clear hXs hOs
  replace h0 := h0.next hb
  replace ia := ia.next hb
  replace ib := ib.next hb
  replace im := im.next hb
  replace iv := iv.next hb
  replace ic := ic.next hb
  replace id := id.next hb
  replace iu := iu.next hb
  replace il := il.next hb
  replace HB := HB.trans (hb.mono HB.size)
  clear hb
  have HC := Lib.hid (symBasis_spec L lk ls k (by omega) x7 il)
  go_wp2_with fail
  (with_reducible refine HC.out.mono ?_)
  rintro e x8 ⟨tA, tk, tr, rfl, hXt, hOt, hb⟩
  clear HC
  have Ht := Lib.hid hXt
  have it := hOt.read.toL (rows_fit hXt (symG_le _ _)) (Nat.le_refl _)
  clear hXt hOt
  replace h0 := h0.next hb
  replace ia := ia.next hb
  replace ib := ib.next hb
  replace im := im.next hb
  replace iv := iv.next hb
  replace ic := ic.next hb
  replace id := id.next hb
  replace iu := iu.next hb
  replace il := il.next hb
  replace is := is.next hb
  replace HB := HB.trans (hb.mono HB.size)
  clear hb
  have HC := Lib.hid (drawIsFinite A c bs x8 h0)
  go_wp2_with fail
  (with_reducible refine HC.out.mono ?_)
  rintro e x9 ⟨F, fk, fs, rfl, if_, hb⟩
  clear HC
  replace h0 := h0.next hb
  replace ia := ia.next hb
  replace ib := ib.next hb
  replace im := im.next hb
  replace iv := iv.next hb
  replace ic := ic.next hb
  replace id := id.next hb
  replace iu := iu.next hb
  replace il := il.next hb
  replace is := is.next hb
  replace it := it.next hb
  replace HB := HB.trans (hb.mono HB.size)
  clear hb
  have HC := Lib.hid (drawIsSumClosed A c bs x9 h0)
  go_wp2_with fail
  (with_reducible refine HC.out.mono ?_)
  rintro e x10 ⟨G, gk, gs, rfl, ig, hb⟩
  clear HC
  replace h0 := h0.next hb
  replace ia := ia.next hb
  replace ib := ib.next hb
  replace im := im.next hb
  replace iv := iv.next hb
  replace ic := ic.next hb
  replace id := id.next hb
  replace iu := iu.next hb
  replace il := il.next hb
  replace is := is.next hb
  replace it := it.next hb
  replace if_ := if_.next hb
  replace HB := HB.trans (hb.mono HB.size)
  clear hb
  have HC := Lib.hid (dDrawFirstBeyond A c bs x10 h0)
  go_wp2_with fail
  (with_reducible refine HC.out.mono ?_)
  rintro e x11 ⟨X1, x1, xs1, Y1, y1, ys1, i, rfl, hi0, hi1, ix, iy, hb⟩
  clear HC
  replace h0 := h0.next hb
  replace ia := ia.next hb
  replace ib := ib.next hb
  replace im := im.next hb
  replace iv := iv.next hb
  replace ic := ic.next hb
  replace id := id.next hb
  replace iu := iu.next hb
  replace il := il.next hb
  replace is := is.next hb
  replace it := it.next hb
  replace if_ := if_.next hb
  replace ig := ig.next hb
  replace HB := HB.trans (hb.mono HB.size)
  clear hb
  clear h0
  have hfl := fbG1_le (xs1.map Row.xs) (ys1.map Row.xs) i
  have HC := Lib.hid (first_impl X1 x1 xs1 Y1 y1 ys1 i (by omega) x11 ix iy)
  go_wp2_with fail
  (with_reducible refine HC.out.mono ?_)
  rintro e x12 ⟨P, pk, rfl, _, _, ownP, hb⟩
  clear HC
  replace ia := ia.next hb
  replace ib := ib.next hb
  replace im := im.next hb
  replace iv := iv.next hb
  replace ic := ic.next hb
  replace id := id.next hb
  replace iu := iu.next hb
  replace il := il.next hb
  replace is := is.next hb
  replace it := it.next hb
  replace if_ := if_.next hb
  replace ig := ig.next hb
  replace ix := ix.next hb
  replace iy := iy.next hb
  replace HB := HB.trans (hb.mono HB.size)
  have ip := In.of_own ownP (by omega)
  clear ownP
  clear hb
  have HC := Lib.hid (first_spec X1 x1 xs1 Y1 y1 ys1 i (by omega) x12 ix iy)
  go_wp2_with fail
  (with_reducible refine HC.out.mono ?_)
  rintro e x13 ⟨Q, qk, rfl, _, _, ownQ, hb⟩
  clear HC
  replace ia := ia.next hb
  replace ib := ib.next hb
  replace im := im.next hb
  replace iv := iv.next hb
  replace ic := ic.next hb
  replace id := id.next hb
  replace iu := iu.next hb
  replace il := il.next hb
  replace is := is.next hb
  replace it := it.next hb
  replace if_ := if_.next hb
  replace ig := ig.next hb
  replace ix := ix.next hb
  replace iy := iy.next hb
  replace ip := ip.next hb
  replace HB := HB.trans (hb.mono HB.size)
  have iq := In.of_own ownQ (by omega)
  clear ownQ
  clear hb
  have c0 : (meB (as1.map Row.xs) (bs1.map Row.xs) != meB (as1.map Row.xs) (bs1.map Row.xs)) = false := by simp
  have HC := Lib.hid (sameLists_eq mA vA mk vk mr vr x13 im iv (by rw [Hm.out, Hv.out]))
  go_wp2_with fail
  (with_reducible refine HC.out.mono ?_)
  rintro e x14 ⟨rfl, hb⟩
  clear HC
  replace ia := ia.next hb
  replace ib := ib.next hb
  replace im := im.next hb
  replace iv := iv.next hb
  replace ic := ic.next hb
  replace id := id.next hb
  replace iu := iu.next hb
  replace il := il.next hb
  replace is := is.next hb
  replace it := it.next hb
  replace if_ := if_.next hb
  replace ig := ig.next hb
  replace ix := ix.next hb
  replace iy := iy.next hb
  replace ip := ip.next hb
  replace iq := iq.next hb
  replace HB := HB.trans (hb.mono HB.size)
  clear hb
  clear iv
  have HC := Lib.hid (unionUpTo_spec C1 c1 cs1 D1 d1 ds1 n (by omega) x14 ic id)
  go_wp2_with fail
  (with_reducible refine HC.out.mono ?_)
  rintro e x15 ⟨v2A, v2k, v2r, rfl, hXv2, hOv2, hb⟩
  clear HC
  have Hv2 := Lib.hid hXv2
  have iv2 := hOv2.read.toL (rows_fit hXv2 (unG_le _ _ _)) (Nat.le_refl _)
  clear hXv2 hOv2
  replace ia := ia.next hb
  replace ib := ib.next hb
  replace im := im.next hb
  replace ic := ic.next hb
  replace id := id.next hb
  replace iu := iu.next hb
  replace il := il.next hb
  replace is := is.next hb
  replace it := it.next hb
  replace if_ := if_.next hb
  replace ig := ig.next hb
  replace ix := ix.next hb
  replace iy := iy.next hb
  replace ip := ip.next hb
  replace iq := iq.next hb
  replace HB := HB.trans (hb.mono HB.size)
  clear hb
  have HC := Lib.hid (sameLists_eq uA v2A uk v2k ur v2r x15 iu iv2 (by rw [Hu.out, Hv2.out]))
  go_wp2_with fail
  (with_reducible refine HC.out.mono ?_)
  rintro e x16 ⟨rfl, hb⟩
  clear HC
  replace ia := ia.next hb
  replace ib := ib.next hb
  replace im := im.next hb
  replace ic := ic.next hb
  replace id := id.next hb
  replace iu := iu.next hb
  replace il := il.next hb
  replace is := is.next hb
  replace it := it.next hb
  replace if_ := if_.next hb
  replace ig := ig.next hb
  replace ix := ix.next hb
  replace iy := iy.next hb
  replace ip := ip.next hb
  replace iq := iq.next hb
  replace iv2 := iv2.next hb
  replace HB := HB.trans (hb.mono HB.size)
  clear hb
  clear iv2 iu ic id
  have c1 : (symB (ls.map Row.xs) k != symB (ls.map Row.xs) k) = false := by simp
  have HC := Lib.hid (sameLists_eq sA tA sk tk sr tr x16 is it (by rw [Hs.out, Ht.out]))
  go_wp2_with fail
  (with_reducible refine HC.out.mono ?_)
  rintro e x17 ⟨rfl, hb⟩
  clear HC
  replace ia := ia.next hb
  replace ib := ib.next hb
  replace im := im.next hb
  replace il := il.next hb
  replace is := is.next hb
  replace it := it.next hb
  replace if_ := if_.next hb
  replace ig := ig.next hb
  replace ix := ix.next hb
  replace iy := iy.next hb
  replace ip := ip.next hb
  replace iq := iq.next hb
  replace HB := HB.trans (hb.mono HB.size)
  clear hb
  clear it
  have HC := Lib.hid (finite_impl F fk fs x17 if_)
  go_wp2_with fail
  (with_reducible refine HC.out.mono ?_)
  rintro e x18 ⟨rfl, hb⟩
  clear HC
  replace ia := ia.next hb
  replace ib := ib.next hb
  replace im := im.next hb
  replace il := il.next hb
  replace is := is.next hb
  replace if_ := if_.next hb
  replace ig := ig.next hb
  replace ix := ix.next hb
  replace iy := iy.next hb
  replace ip := ip.next hb
  replace iq := iq.next hb
  replace HB := HB.trans (hb.mono HB.size)
  clear hb
  have HC := Lib.hid (finite_spec F fk fs x18 if_)
  go_wp2_with fail
  (with_reducible refine HC.out.mono ?_)
  rintro e x19 ⟨rfl, hb⟩
  clear HC
  replace ia := ia.next hb
  replace ib := ib.next hb
  replace im := im.next hb
  replace il := il.next hb
  replace is := is.next hb
  replace if_ := if_.next hb
  replace ig := ig.next hb
  replace ix := ix.next hb
  replace iy := iy.next hb
  replace ip := ip.next hb
  replace iq := iq.next hb
  replace HB := HB.trans (hb.mono HB.size)
  clear hb
  have c2 : (finG (fs.map Row.xs) != finG (fs.map Row.xs)) = false := by simp
  have HC := Lib.hid (sumClosed_impl G gk gs x19 ig)
  go_wp2_with fail
  (with_reducible refine HC.out.mono ?_)
  rintro e x20 ⟨rfl, hb⟩
  clear HC
  replace ia := ia.next hb
  replace ib := ib.next hb
  replace im := im.next hb
  replace il := il.next hb
  replace is := is.next hb
  replace if_ := if_.next hb
  replace ig := ig.next hb
  replace ix := ix.next hb
  replace iy := iy.next hb
  replace ip := ip.next hb
  replace iq := iq.next hb
  replace HB := HB.trans (hb.mono HB.size)
  clear hb
  have HC := Lib.hid (sumClosed_spec G gk gs x20 ig)
  go_wp2_with fail
  (with_reducible refine HC.out.mono ?_)
  rintro e x21 ⟨rfl, hb⟩
  clear HC
  replace ia := ia.next hb
  replace ib := ib.next hb
  replace im := im.next hb
  replace il := il.next hb
  replace is := is.next hb
  replace if_ := if_.next hb
  replace ig := ig.next hb
  replace ix := ix.next hb
  replace iy := iy.next hb
  replace ip := ip.next hb
  replace iq := iq.next hb
  replace HB := HB.trans (hb.mono HB.size)
  clear hb
  have c3 : (scG (gs.map Row.xs) != scG (gs.map Row.xs)) = false := by simp
  have c4 : (fbG2 (xs1.map Row.xs) (ys1.map Row.xs) i != fbG2 (xs1.map Row.xs) (ys1.map Row.xs) i) = false := by simp
  clear ig
  have HC := Lib.hid (sameInts_eq P Q pk qk _ _ (fbG1 (xs1.map Row.xs) (ys1.map Row.xs) i) (fbG1 (xs1.map Row.xs) (ys1.map Row.xs) i) x21 rfl rfl rfl hfl ip.rd iq.rd)
  go_wp2_with fail
  (with_reducible refine HC.out.mono ?_)
  rintro e x22 ⟨rfl, hd⟩
  clear HC
  have hb := (below_dr (Below.refl x21.heap.size x21) hd)
  replace ia := ia.next hb
  replace ib := ib.next hb
  replace im := im.next hb
  replace il := il.next hb
  replace is := is.next hb
  replace if_ := if_.next hb
  replace ix := ix.next hb
  replace iy := iy.next hb
  replace ip := ip.next hb
  replace iq := iq.next hb
  replace HB := HB.trans (hb.mono HB.size)
  clear hb hd
  clear iq
  have HC := Lib.hid (within_impl A1 a1 as1 B1 b1 bs1 x22 ia ib)
  go_wp2_with fail
  (with_reducible refine HC.out.mono ?_)
  rintro e x23 ⟨rfl, hb⟩
  clear HC
  replace ia := ia.next hb
  replace ib := ib.next hb
  replace im := im.next hb
  replace il := il.next hb
  replace is := is.next hb
  replace if_ := if_.next hb
  replace ix := ix.next hb
  replace iy := iy.next hb
  replace ip := ip.next hb
  replace HB := HB.trans (hb.mono HB.size)
  clear hb
  have HC := Lib.hid (within_spec A1 a1 as1 B1 b1 bs1 x23 ia ib)
  go_wp2_with fail
  (with_reducible refine HC.out.mono ?_)
  rintro e x24 ⟨rfl, hb⟩
  clear HC
  replace ia := ia.next hb
  replace ib := ib.next hb
  replace im := im.next hb
  replace il := il.next hb
  replace is := is.next hb
  replace if_ := if_.next hb
  replace ix := ix.next hb
  replace iy := iy.next hb
  replace ip := ip.next hb
  replace HB := HB.trans (hb.mono HB.size)
  clear hb
  have c5 : (withinB (as1.map Row.xs) (bs1.map Row.xs) != withinB (as1.map Row.xs) (bs1.map Row.xs)) = false := by simp
  go_upto_region 18 with (fail)
  go_cut [25, 27, 183] from 34 to 183 (fun _ _ s wz => s = .bool false ∧ Below x24.heap.size x24 wz)
  case first =>
    rcases hfb : fbG2 (xs1.map Row.xs) (ys1.map Row.xs) i with _ | _
    · go_wp2_with fail
      go_meet
      case rel => exact ⟨rfl, Below.refl _ _⟩
    have HBI := Lib.hid (beyond_in hfb)
    clear hfb
    have HC := Lib.hid (inClass_sq X1 x1 xs1 P pk _ x24 ix ip HBI.out.1)
    go_wp2_with fail
    (with_reducible refine HC.out.mono ?_)
    rintro e x25 ⟨rfl, hb⟩
    clear HC
    replace ia := ia.next hb
    replace ib := ib.next hb
    replace im := im.next hb
    replace il := il.next hb
    replace is := is.next hb
    replace if_ := if_.next hb
    replace ix := ix.next hb
    replace iy := iy.next hb
    replace ip := ip.next hb
    have hbl := hb
    clear hb
    have HC := Lib.hid (inClass_sq Y1 y1 ys1 P pk _ x25 iy ip HBI.out.2.1)
    go_wp2_with fail
    (with_reducible refine HC.out.mono ?_)
    rintro e x26 ⟨rfl, hb⟩
    clear HC
    replace ia := ia.next hb
    replace ib := ib.next hb
    replace im := im.next hb
    replace il := il.next hb
    replace is := is.next hb
    replace if_ := if_.next hb
    replace ix := ix.next hb
    replace iy := iy.next hb
    replace ip := ip.next hb
    replace hbl := hbl.trans (hb.mono hbl.size)
    clear hb
    have HC := Lib.hid (within_iq X1 x1 xs1 Y1 y1 ys1 x26 ix iy HBI.out.2.2)
    go_wp2_with fail
    (with_reducible refine HC.out.mono ?_)
    rintro e x27 ⟨rfl, hb⟩
    clear HC
    replace ia := ia.next hb
    replace ib := ib.next hb
    replace im := im.next hb
    replace il := il.next hb
    replace is := is.next hb
    replace if_ := if_.next hb
    replace ix := ix.next hb
    replace iy := iy.next hb
    replace ip := ip.next hb
    replace hbl := hbl.trans (hb.mono hbl.size)
    clear hb
    go_wp2_with fail
    go_meet
    case rel => exact ⟨rfl, hbl⟩
  obtain ⟨rfl, hbz⟩ := hcut
  obtain ⟨q1, rfl⟩ : ∃ w', w' = wc := ⟨_, rfl⟩
  replace ia := ia.next hbz
  replace ib := ib.next hbz
  replace im := im.next hbz
  replace il := il.next hbz
  replace is := is.next hbz
  replace if_ := if_.next hbz
  replace ix := ix.next hbz
  replace iy := iy.next hbz
  replace ip := ip.next hbz
  replace HB := HB.trans (hbz.mono HB.size)
  clear hbz
  clear ix iy ip
  go_upto_region 20 with (fail)
  go_cut [6, 8, 196] from 184 to 196 (fun s6 _ s wz => s6 = .bool (meB (as1.map Row.xs) (bs1.map Row.xs)) ∧ s = .bool false ∧ Below q1.heap.size q1 wz)
  case first =>
    rcases hme : meB (as1.map Row.xs) (bs1.map Row.xs) with _ | _
    · go_wp2_with fail
      go_meet
      case rel => exact ⟨by first | rfl | rw [hme], rfl, Below.refl _ _⟩
    have HMF := Lib.hid (meet_facts hme)
    have HME := Lib.hid hme
    clear hme
    have HC := Lib.hid (within_iq (b := true) mA mk mr A1 a1 as1 q1 im ia (by rw [Hm.out]; exact HMF.out.1))
    go_wp2_with fail
    (with_reducible refine HC.out.mono ?_)
    rintro e x28 ⟨rfl, hb⟩
    clear HC
    replace ia := ia.next hb
    replace ib := ib.next hb
    replace im := im.next hb
    replace il := il.next hb
    replace is := is.next hb
    replace if_ := if_.next hb
    have hbl := hb
    clear hb
    have HC := Lib.hid (within_iq (b := true) mA mk mr B1 b1 bs1 x28 im ib (by rw [Hm.out]; exact HMF.out.2.1))
    go_wp2_with fail
    (with_reducible refine HC.out.mono ?_)
    rintro e x29 ⟨rfl, hb⟩
    clear HC
    replace ia := ia.next hb
    replace ib := ib.next hb
    replace im := im.next hb
    replace il := il.next hb
    replace is := is.next hb
    replace if_ := if_.next hb
    replace hbl := hbl.trans (hb.mono hbl.size)
    clear hb
    go_wp2_with fail
    go_meet
    case rel => exact ⟨by first | rfl | rw [HME.out], rfl, hbl⟩
  obtain ⟨rfl, rfl, hbz⟩ := hcut
  obtain ⟨q2, rfl⟩ : ∃ w', w' = wc := ⟨_, rfl⟩
  replace ia := ia.next hbz
  replace ib := ib.next hbz
  replace im := im.next hbz
  replace il := il.next hbz
  replace is := is.next hbz
  replace if_ := if_.next hbz
  replace HB := HB.trans (hbz.mono HB.size)
  clear hbz
  go_upto_region 22 with (fail)
  go_cut [16, 18, 205] from 197 to 205 (fun _ _ s wz => s = .bool false ∧ Below q2.heap.size q2 wz)
  case first =>
    rcases hsy : symB (ls.map Row.xs) k with _ | _
    · go_wp2_with fail
      go_meet
      case rel => exact ⟨rfl, Below.refl _ _⟩
    have HSC := Lib.hid (show ccG (sr.map Row.xs) 4 = ccG (ls.map Row.xs) 4 by rw [Hs.out]; exact sym_counts hsy)
    have hc1 := few_counts (sr.map Row.xs)
    have hc2 := few_counts (ls.map Row.xs)
    clear hsy
    have HC := Lib.hid (classCounts_spec sA sk sr 4 (by omega) q2 is)
    go_wp2_with fail
    (with_reducible refine HC.out.mono ?_)
    rintro e x30 ⟨U, uk, rfl, _, _, ownU, hb⟩
    clear HC
    replace ia := ia.next hb
    replace ib := ib.next hb
    replace im := im.next hb
    replace il := il.next hb
    replace is := is.next hb
    replace if_ := if_.next hb
    have iu := In.of_own ownU (by omega)
    clear ownU
    have hbl := hb
    clear hb
    have HC := Lib.hid (classCounts_spec L lk ls 4 (by omega) x30 il)
    go_wp2_with fail
    (with_reducible refine HC.out.mono ?_)
    rintro e x31 ⟨V, vk, rfl, _, _, ownV, hb⟩
    clear HC
    replace ia := ia.next hb
    replace ib := ib.next hb
    replace im := im.next hb
    replace il := il.next hb
    replace is := is.next hb
    replace if_ := if_.next hb
    have iu := iu.next hb
    have iv := In.of_own ownV (by omega)
    clear ownV
    replace hbl := hbl.trans (hb.mono hbl.size)
    clear hb
    have HC := Lib.hid (sameInts_eq U V uk vk _ _ (ccG (sr.map Row.xs) 4) (ccG (ls.map Row.xs) 4) x31 HSC.out rfl (by rw [HSC.out]) hc1 iu.rd iv.rd)
    go_wp2_with fail
    (with_reducible refine HC.out.mono ?_)
    rintro e x32 ⟨rfl, hd⟩
    clear HC
    have hb := (below_dr (Below.refl x31.heap.size x31) hd)
    clear hd
    replace ia := ia.next hb
    replace ib := ib.next hb
    replace im := im.next hb
    replace il := il.next hb
    replace is := is.next hb
    replace if_ := if_.next hb
    replace hbl := hbl.trans (hb.mono hbl.size)
    clear hb
    go_wp2_with fail
    go_meet
    case rel => exact ⟨rfl, hbl⟩
  obtain ⟨rfl, hbz⟩ := hcut
  obtain ⟨q3, rfl⟩ : ∃ w', w' = wc := ⟨_, rfl⟩
  replace ia := ia.next hbz
  replace ib := ib.next hbz
  replace im := im.next hbz
  replace il := il.next hbz
  replace is := is.next hbz
  replace if_ := if_.next hbz
  replace HB := HB.trans (hbz.mono HB.size)
  clear hbz
  clear is il
  go_upto_region 24 with (fail)
  go_upto_if 206 with (fail)
  go_cut [6, 28, 29] from 206 to 234 (fun _ _ _ wz => Below q3.heap.size q3 wz)
  case first =>
    rcases hme : meB (as1.map Row.xs) (bs1.map Row.xs) with _ | _
    · go_wp2_with fail
      go_meet
      case rel => exact Below.refl _ _
    have HMF := Lib.hid (meet_facts hme)
    clear hme
    have HC := Lib.hid (permsOf_spec (4 : Int) q3)
    go_wp2_with fail
    (with_reducible refine HC.out.mono ?_)
    rintro e z1 ⟨PA, pc, qs, rfl, hX, hQ, hbC⟩
    have HX : Hid (qs.map Row.xs = permsL 4) := Lib.hid (by rw [hX, permsG, if_pos (by omega)]; rfl)
    have hqsl : qs.length ≤ 256 := by
      have h1 := congrArg List.length HX.out
      rw [List.length_map] at h1
      rw [h1]
      exact permsI_le 4 4
    replace ia := ia.next hbC
    replace ib := ib.next hbC
    replace im := im.next hbC
    replace if_ := if_.next hbC
    clear hX HC
    go_wp2_with fail
    go_loopw [29] (fun i wr => ∃ j : Nat, j ≤ qs.length ∧ i = .int .i64 j ∧ Below z1.heap.size z1 wr) (fun i _ => qs.length - (intOf i).toNat)
    case atStart => exact ⟨0, Nat.zero_le _, rfl, Below.refl _ _⟩
    case round =>
      obtain ⟨j, hj, rfl, hb⟩ := hrel
      have hsz := hb.size
      rcases Nat.lt_or_ge j qs.length with hlt | hge
      · have hQ2 := hQ.below hb
        replace ia := ia.next hb
        replace ib := ib.next hb
        replace im := im.next hb
        replace if_ := if_.next hb
        have hjl : (j : Int) < (qs.length : Int) := by omega
        have hj0 : (0 : Int) ≤ (j : Int) := Int.natCast_nonneg _
        obtain ⟨pb, cap, hv, hpb, hlp⟩ := hQ2.out.form (by simp; omega)
        have hv : PA = some ⟨pb, 0, none⟩ := by injection hv
        subst hv
        have hcell := hQ2.read.cellAt j hlt
        have hrow := own_row hQ2 (r := qs[j]) (List.getElem_mem hlt) hsz
        have hmem : qs[j].xs ∈ permsL 4 := by rw [← HX.out]; exact List.mem_map.2 ⟨qs[j], List.getElem_mem hlt, rfl⟩
        generalize qs[j] = r1 at hcell hrow hmem
        obtain ⟨rA, rc, rx⟩ := r1
        simp only [Nat.zero_add] at hcell hrow hmem
        have hx4 := permsL_4 hmem
        have HZE := Lib.hid (show inClassB (mr.map Row.xs) rx = (inClassB (as1.map Row.xs) rx && inClassB (bs1.map Row.xs) rx) by rw [Hm.out]; exact HMF.out.2.2 rx hx4.1)
        have hin : In wr rA rc rx := ⟨by omega, hrow.1, hrow.2⟩
        have hpl : pb < wr.drew.heap.size := hlp
        have hS0 : wr.drew.cell? ⟨pb, j, none⟩ = some (Value.slice rA rx.length rc) := hcell
        have hin := hin.dr (Dr.refl wr).drew
        have hbd0 := below_dr (Below.refl wr.heap.size wr) (Dr.refl wr).drew
        have hbd := below_dr hb (Dr.refl wr).drew
        replace ia := ia.next hbd0
        replace ib := ib.next hbd0
        replace im := im.next hbd0
        replace if_ := if_.next hbd0
        obtain ⟨bA, hbA⟩ : ∃ b, inClassB (as1.map Row.xs) rx = b := ⟨_, rfl⟩
        obtain ⟨bB, hbB⟩ : ∃ b, inClassB (bs1.map Row.xs) rx = b := ⟨_, rfl⟩
        rw [hbA, hbB] at HZE
        have HBA := Lib.hid hbA
        have HBB := Lib.hid hbB
        clear hQ2 hrow hmem hcell hbA hbB hb hbd0
        rcases bA with _ | _
        · have HZE := Lib.hid (show inClassB (mr.map Row.xs) rx = false by rw [HZE.out]; rfl)
          go_wp2_with fail
          refine wp_region_held_drew (S := (fun v => v.cell? ⟨pb, j, none⟩ = some (Value.slice rA rx.length rc))) (by kernel_rfl) hS0 (fun hHeld => ?_)
          refine wpAnyH_take (i := 0) (oi := _) (v := ?_) rfl (by kernel_rfl) (by kernel_rfl) (by kernel_rfl) (fun _ _ _ h => h) (Or.inl ⟨by rfl, ?_⟩) (by assumption) ?_
          rotate_left
          · intro w hSw
            try dsimp only at hSw
            go_simp
            all_goals with_reducible rfl
          try simp only [Act.put, List.setIfInBounds_toArray, List.set_cons_zero, List.set_cons_succ, List.getElem_toArray, List.getElem_cons_succ, List.getElem_cons_zero]
          refine wpAnyH_take (i := 1) (oi := _) (v := ?_) rfl (by kernel_rfl) (by kernel_rfl) (by kernel_rfl) (fun _ _ _ h => h) (Or.inl ⟨by rfl, ?_⟩) (by assumption) ?_
          rotate_left
          · intro w hSw
            try dsimp only at hSw
            go_simp
            all_goals with_reducible rfl
          try simp only [Act.put, List.setIfInBounds_toArray, List.set_cons_zero, List.set_cons_succ, List.getElem_toArray, List.getElem_cons_succ, List.getElem_cons_zero]
          refine wpAnyH_take (i := 2) (oi := _) (v := ?_) rfl (by kernel_rfl) (by kernel_rfl) (by kernel_rfl) (fun _ _ _ h => h) (Or.inl ⟨by rfl, ?_⟩) (by assumption) ?_
          rotate_left
          · intro w hSw
            try dsimp only at hSw
            go_simp
            all_goals with_reducible rfl
          try simp only [Act.put, List.setIfInBounds_toArray, List.set_cons_zero, List.set_cons_succ, List.getElem_toArray, List.getElem_cons_succ, List.getElem_cons_zero]
          refine wpAnyH_take (i := 3) (oi := _) (v := ?_) rfl (by kernel_rfl) (by kernel_rfl) (by kernel_rfl) (fun _ _ _ h => h) (Or.inl ⟨by rfl, ?_⟩) (by assumption) ?_
          rotate_left
          · intro w hSw
            try dsimp only at hSw
            go_simp
            all_goals with_reducible rfl
          try simp only [Act.put, List.setIfInBounds_toArray, List.set_cons_zero, List.set_cons_succ, List.getElem_toArray, List.getElem_cons_succ, List.getElem_cons_zero]
          refine wpAnyH_take (i := 4) (oi := _) (v := ?_) rfl (by kernel_rfl) (by kernel_rfl) (by kernel_rfl) (fun _ _ _ h => h) (Or.inl ⟨by rfl, ?_⟩) (by assumption) ?_
          rotate_left
          · intro w hSw
            try dsimp only at hSw
            go_simp
            all_goals with_reducible rfl
          try simp only [Act.put, List.setIfInBounds_toArray, List.set_cons_zero, List.set_cons_succ, List.getElem_toArray, List.getElem_cons_succ, List.getElem_cons_zero]
          refine wpAnyH_take (i := 6) (oi := _) (v := ?_) rfl (by kernel_rfl) (by kernel_rfl) (by kernel_rfl) (fun _ _ _ h => h) (Or.inl ⟨by rfl, ?_⟩) (by assumption) ?_
          rotate_left
          · intro w hSw
            try dsimp only at hSw
            go_simp
            all_goals with_reducible rfl
          try simp only [Act.put, List.setIfInBounds_toArray, List.set_cons_zero, List.set_cons_succ, List.getElem_toArray, List.getElem_cons_succ, List.getElem_cons_zero]
          refine wpAnyH_take (i := 7) (oi := _) (v := ?_) rfl (by kernel_rfl) (by kernel_rfl) (by kernel_rfl) (fun _ _ _ h => h) (Or.inl ⟨by rfl, ?_⟩) (by assumption) ?_
          rotate_left
          · intro w hSw
            try dsimp only at hSw
            go_simp
            all_goals with_reducible rfl
          try simp only [Act.put, List.setIfInBounds_toArray, List.set_cons_zero, List.set_cons_succ, List.getElem_toArray, List.getElem_cons_succ, List.getElem_cons_zero]
          refine wpAnyH_take (i := 8) (oi := _) (v := ?_) rfl (by kernel_rfl) (by kernel_rfl) (by kernel_rfl) (fun _ _ _ h => h) (Or.inl ⟨by rfl, ?_⟩) (by assumption) ?_
          rotate_left
          · intro w hSw
            try dsimp only at hSw
            go_simp
            all_goals with_reducible rfl
          try simp only [Act.put, List.setIfInBounds_toArray, List.set_cons_zero, List.set_cons_succ, List.getElem_toArray, List.getElem_cons_succ, List.getElem_cons_zero]
          refine wpAnyH_take (i := 9) (oi := _) (v := ?_) rfl (by kernel_rfl) (by kernel_rfl) (by kernel_rfl) (fun _ _ _ h => h) (Or.inl ⟨by rfl, ?_⟩) (by assumption) ?_
          rotate_left
          · intro w hSw
            try dsimp only at hSw
            go_simp
            all_goals with_reducible rfl
          try simp only [Act.put, List.setIfInBounds_toArray, List.set_cons_zero, List.set_cons_succ, List.getElem_toArray, List.getElem_cons_succ, List.getElem_cons_zero]
          refine wpAnyH_take (i := 10) (oi := _) (v := ?_) rfl (by kernel_rfl) (by kernel_rfl) (by kernel_rfl) (fun _ _ _ h => h) (Or.inl ⟨by rfl, ?_⟩) (by assumption) ?_
          rotate_left
          · intro w hSw
            try dsimp only at hSw
            go_simp
            all_goals with_reducible rfl
          try simp only [Act.put, List.setIfInBounds_toArray, List.set_cons_zero, List.set_cons_succ, List.getElem_toArray, List.getElem_cons_succ, List.getElem_cons_zero]
          refine wpAnyH_ready (rs := [5]) (by kernel_rfl) (by simp) ?_
          refine AllReadyH.cons (o := _) rfl (fun K hK => ?_) AllReadyH.nil
          go_simp
          refine Calls.mono (inClass_sq mA mk mr rA rc rx _ im hin HZE.out) ?_
          rintro e v1 ⟨rfl, hb⟩
          have im := im.next hb
          have ia := ia.next hb
          have ib := ib.next hb
          have hin := hin.next hb
          have hbd := hbd.trans (hb.mono hbd.size)
          have hS1 : v1.cell? ⟨pb, j, none⟩ = some (Value.slice rA rx.length rc) := (hb.cell hpl).trans hS0
          have hpl : pb < v1.heap.size := by have := hb.size; omega
          clear hb
          go_wp2_with fail
          refine hK.out _ _ (hS1) (fun hHeld => ?_)
          clear hK K
          try simp only [Act.put, List.setIfInBounds_toArray, List.set_cons_zero, List.set_cons_succ, List.getElem_toArray, List.getElem_cons_succ, List.getElem_cons_zero]
          refine wpAnyH_ready (rs := [11]) (by kernel_rfl) (by simp) ?_
          refine AllReadyH.cons (o := _) rfl (fun K hK => ?_) AllReadyH.nil
          go_simp
          refine Calls.mono (inClass_sq A1 a1 as1 rA rc rx _ ia hin HBA.out) ?_
          rintro e v2 ⟨rfl, hb⟩
          have im := im.next hb
          have ia := ia.next hb
          have ib := ib.next hb
          have hin := hin.next hb
          have hbd := hbd.trans (hb.mono hbd.size)
          have hS2 : v2.cell? ⟨pb, j, none⟩ = some (Value.slice rA rx.length rc) := (hb.cell hpl).trans hS1
          have hpl : pb < v2.heap.size := by have := hb.size; omega
          clear hb
          go_wp2_with fail
          refine hK.out _ _ (hS2) (fun hHeld => ?_)
          clear hK K
          try simp only [Act.put, List.setIfInBounds_toArray, List.set_cons_zero, List.set_cons_succ, List.getElem_toArray, List.getElem_cons_succ, List.getElem_cons_zero]
          refine wpAnyH_take (i := 12) (oi := _) (v := ?_) rfl (by kernel_rfl) (by kernel_rfl) (by kernel_rfl) (fun _ _ _ h => h) (Or.inl ⟨by rfl, ?_⟩) (by assumption) ?_
          rotate_left
          · intro w hSw
            try dsimp only at hSw
            go_simp
            all_goals with_reducible rfl
          try simp only [Act.put, List.setIfInBounds_toArray, List.set_cons_zero, List.set_cons_succ, List.getElem_toArray, List.getElem_cons_succ, List.getElem_cons_zero]
          refine wpAnyH_take (i := 13) (oi := _) (v := undef) rfl (by kernel_rfl) (by kernel_rfl) (by kernel_rfl) (fun _ _ _ h => h) (Or.inr ⟨by rfl, rfl⟩) (by assumption) ?_
          try simp only [Act.put, List.setIfInBounds_toArray, List.set_cons_zero, List.set_cons_succ, List.getElem_toArray, List.getElem_cons_succ, List.getElem_cons_zero]
          refine wpAnyH_take (i := 14) (oi := _) (v := undef) rfl (by kernel_rfl) (by kernel_rfl) (by kernel_rfl) (fun _ _ _ h => h) (Or.inr ⟨by rfl, rfl⟩) (by assumption) ?_
          try simp only [Act.put, List.setIfInBounds_toArray, List.set_cons_zero, List.set_cons_succ, List.getElem_toArray, List.getElem_cons_succ, List.getElem_cons_zero]
          refine wpAnyH_take (i := 15) (oi := _) (v := undef) rfl (by kernel_rfl) (by kernel_rfl) (by kernel_rfl) (fun _ _ _ h => h) (Or.inr ⟨by rfl, rfl⟩) (by assumption) ?_
          try simp only [Act.put, List.setIfInBounds_toArray, List.set_cons_zero, List.set_cons_succ, List.getElem_toArray, List.getElem_cons_succ, List.getElem_cons_zero]
          refine wpAnyH_take (i := 16) (oi := _) (v := undef) rfl (by kernel_rfl) (by kernel_rfl) (by kernel_rfl) (fun _ _ _ h => h) (Or.inr ⟨by rfl, rfl⟩) (by assumption) ?_
          try simp only [Act.put, List.setIfInBounds_toArray, List.set_cons_zero, List.set_cons_succ, List.getElem_toArray, List.getElem_cons_succ, List.getElem_cons_zero]
          refine wpAnyH_take (i := 17) (oi := _) (v := undef) rfl (by kernel_rfl) (by kernel_rfl) (by kernel_rfl) (fun _ _ _ h => h) (Or.inr ⟨by rfl, rfl⟩) (by assumption) ?_
          try simp only [Act.put, List.setIfInBounds_toArray, List.set_cons_zero, List.set_cons_succ, List.getElem_toArray, List.getElem_cons_succ, List.getElem_cons_zero]
          refine wpAnyH_take (i := 18) (oi := _) (v := undef) rfl (by kernel_rfl) (by kernel_rfl) (by kernel_rfl) (fun _ _ _ h => h) (Or.inr ⟨by rfl, rfl⟩) (by assumption) ?_
          try simp only [Act.put, List.setIfInBounds_toArray, List.set_cons_zero, List.set_cons_succ, List.getElem_toArray, List.getElem_cons_succ, List.getElem_cons_zero]
          refine wpAnyH_take (i := 19) (oi := _) (v := ?_) rfl (by kernel_rfl) (by kernel_rfl) (by kernel_rfl) (fun _ _ _ h => h) (Or.inl ⟨by rfl, ?_⟩) (by assumption) ?_
          rotate_left
          · intro w hSw
            try dsimp only at hSw
            go_simp
            all_goals with_reducible rfl
          try simp only [Act.put, List.setIfInBounds_toArray, List.set_cons_zero, List.set_cons_succ, List.getElem_toArray, List.getElem_cons_succ, List.getElem_cons_zero]
          refine wpAnyH_take (i := 20) (oi := _) (v := ?_) rfl (by kernel_rfl) (by kernel_rfl) (by kernel_rfl) (fun _ _ _ h => h) (Or.inl ⟨by rfl, ?_⟩) (by assumption) ?_
          rotate_left
          · intro w hSw
            try dsimp only at hSw
            go_simp
            all_goals with_reducible rfl
          try simp only [Act.put, List.setIfInBounds_toArray, List.set_cons_zero, List.set_cons_succ, List.getElem_toArray, List.getElem_cons_succ, List.getElem_cons_zero]
          refine wpAnyH_done (by kernel_rfl) ?_ _
          go_wp2_with fail
          go_roundw
          case rel => exact ⟨j + 1, by omega, by go_num, hbd⟩
          case measure => simp [intOf]; omega
        · rcases bB with _ | _
          · have HZE := Lib.hid (show inClassB (mr.map Row.xs) rx = false by rw [HZE.out]; rfl)
            go_wp2_with fail
            refine wp_region_held_drew (S := (fun v => v.cell? ⟨pb, j, none⟩ = some (Value.slice rA rx.length rc))) (by kernel_rfl) hS0 (fun hHeld => ?_)
            refine wpAnyH_take (i := 0) (oi := _) (v := ?_) rfl (by kernel_rfl) (by kernel_rfl) (by kernel_rfl) (fun _ _ _ h => h) (Or.inl ⟨by rfl, ?_⟩) (by assumption) ?_
            rotate_left
            · intro w hSw
              try dsimp only at hSw
              go_simp
              all_goals with_reducible rfl
            try simp only [Act.put, List.setIfInBounds_toArray, List.set_cons_zero, List.set_cons_succ, List.getElem_toArray, List.getElem_cons_succ, List.getElem_cons_zero]
            refine wpAnyH_take (i := 1) (oi := _) (v := ?_) rfl (by kernel_rfl) (by kernel_rfl) (by kernel_rfl) (fun _ _ _ h => h) (Or.inl ⟨by rfl, ?_⟩) (by assumption) ?_
            rotate_left
            · intro w hSw
              try dsimp only at hSw
              go_simp
              all_goals with_reducible rfl
            try simp only [Act.put, List.setIfInBounds_toArray, List.set_cons_zero, List.set_cons_succ, List.getElem_toArray, List.getElem_cons_succ, List.getElem_cons_zero]
            refine wpAnyH_take (i := 2) (oi := _) (v := ?_) rfl (by kernel_rfl) (by kernel_rfl) (by kernel_rfl) (fun _ _ _ h => h) (Or.inl ⟨by rfl, ?_⟩) (by assumption) ?_
            rotate_left
            · intro w hSw
              try dsimp only at hSw
              go_simp
              all_goals with_reducible rfl
            try simp only [Act.put, List.setIfInBounds_toArray, List.set_cons_zero, List.set_cons_succ, List.getElem_toArray, List.getElem_cons_succ, List.getElem_cons_zero]
            refine wpAnyH_take (i := 3) (oi := _) (v := ?_) rfl (by kernel_rfl) (by kernel_rfl) (by kernel_rfl) (fun _ _ _ h => h) (Or.inl ⟨by rfl, ?_⟩) (by assumption) ?_
            rotate_left
            · intro w hSw
              try dsimp only at hSw
              go_simp
              all_goals with_reducible rfl
            try simp only [Act.put, List.setIfInBounds_toArray, List.set_cons_zero, List.set_cons_succ, List.getElem_toArray, List.getElem_cons_succ, List.getElem_cons_zero]
            refine wpAnyH_take (i := 4) (oi := _) (v := ?_) rfl (by kernel_rfl) (by kernel_rfl) (by kernel_rfl) (fun _ _ _ h => h) (Or.inl ⟨by rfl, ?_⟩) (by assumption) ?_
            rotate_left
            · intro w hSw
              try dsimp only at hSw
              go_simp
              all_goals with_reducible rfl
            try simp only [Act.put, List.setIfInBounds_toArray, List.set_cons_zero, List.set_cons_succ, List.getElem_toArray, List.getElem_cons_succ, List.getElem_cons_zero]
            refine wpAnyH_take (i := 6) (oi := _) (v := ?_) rfl (by kernel_rfl) (by kernel_rfl) (by kernel_rfl) (fun _ _ _ h => h) (Or.inl ⟨by rfl, ?_⟩) (by assumption) ?_
            rotate_left
            · intro w hSw
              try dsimp only at hSw
              go_simp
              all_goals with_reducible rfl
            try simp only [Act.put, List.setIfInBounds_toArray, List.set_cons_zero, List.set_cons_succ, List.getElem_toArray, List.getElem_cons_succ, List.getElem_cons_zero]
            refine wpAnyH_take (i := 7) (oi := _) (v := ?_) rfl (by kernel_rfl) (by kernel_rfl) (by kernel_rfl) (fun _ _ _ h => h) (Or.inl ⟨by rfl, ?_⟩) (by assumption) ?_
            rotate_left
            · intro w hSw
              try dsimp only at hSw
              go_simp
              all_goals with_reducible rfl
            try simp only [Act.put, List.setIfInBounds_toArray, List.set_cons_zero, List.set_cons_succ, List.getElem_toArray, List.getElem_cons_succ, List.getElem_cons_zero]
            refine wpAnyH_take (i := 8) (oi := _) (v := ?_) rfl (by kernel_rfl) (by kernel_rfl) (by kernel_rfl) (fun _ _ _ h => h) (Or.inl ⟨by rfl, ?_⟩) (by assumption) ?_
            rotate_left
            · intro w hSw
              try dsimp only at hSw
              go_simp
              all_goals with_reducible rfl
            try simp only [Act.put, List.setIfInBounds_toArray, List.set_cons_zero, List.set_cons_succ, List.getElem_toArray, List.getElem_cons_succ, List.getElem_cons_zero]
            refine wpAnyH_take (i := 9) (oi := _) (v := ?_) rfl (by kernel_rfl) (by kernel_rfl) (by kernel_rfl) (fun _ _ _ h => h) (Or.inl ⟨by rfl, ?_⟩) (by assumption) ?_
            rotate_left
            · intro w hSw
              try dsimp only at hSw
              go_simp
              all_goals with_reducible rfl
            try simp only [Act.put, List.setIfInBounds_toArray, List.set_cons_zero, List.set_cons_succ, List.getElem_toArray, List.getElem_cons_succ, List.getElem_cons_zero]
            refine wpAnyH_take (i := 10) (oi := _) (v := ?_) rfl (by kernel_rfl) (by kernel_rfl) (by kernel_rfl) (fun _ _ _ h => h) (Or.inl ⟨by rfl, ?_⟩) (by assumption) ?_
            rotate_left
            · intro w hSw
              try dsimp only at hSw
              go_simp
              all_goals with_reducible rfl
            try simp only [Act.put, List.setIfInBounds_toArray, List.set_cons_zero, List.set_cons_succ, List.getElem_toArray, List.getElem_cons_succ, List.getElem_cons_zero]
            refine wpAnyH_ready (rs := [5]) (by kernel_rfl) (by simp) ?_
            refine AllReadyH.cons (o := _) rfl (fun K hK => ?_) AllReadyH.nil
            go_simp
            refine Calls.mono (inClass_sq mA mk mr rA rc rx _ im hin HZE.out) ?_
            rintro e v1 ⟨rfl, hb⟩
            have im := im.next hb
            have ia := ia.next hb
            have ib := ib.next hb
            have hin := hin.next hb
            have hbd := hbd.trans (hb.mono hbd.size)
            have hS1 : v1.cell? ⟨pb, j, none⟩ = some (Value.slice rA rx.length rc) := (hb.cell hpl).trans hS0
            have hpl : pb < v1.heap.size := by have := hb.size; omega
            clear hb
            go_wp2_with fail
            refine hK.out _ _ (hS1) (fun hHeld => ?_)
            clear hK K
            try simp only [Act.put, List.setIfInBounds_toArray, List.set_cons_zero, List.set_cons_succ, List.getElem_toArray, List.getElem_cons_succ, List.getElem_cons_zero]
            refine wpAnyH_ready (rs := [11]) (by kernel_rfl) (by simp) ?_
            refine AllReadyH.cons (o := _) rfl (fun K hK => ?_) AllReadyH.nil
            go_simp
            refine Calls.mono (inClass_sq A1 a1 as1 rA rc rx _ ia hin HBA.out) ?_
            rintro e v2 ⟨rfl, hb⟩
            have im := im.next hb
            have ia := ia.next hb
            have ib := ib.next hb
            have hin := hin.next hb
            have hbd := hbd.trans (hb.mono hbd.size)
            have hS2 : v2.cell? ⟨pb, j, none⟩ = some (Value.slice rA rx.length rc) := (hb.cell hpl).trans hS1
            have hpl : pb < v2.heap.size := by have := hb.size; omega
            clear hb
            go_wp2_with fail
            refine hK.out _ _ (hS2) (fun hHeld => ?_)
            clear hK K
            try simp only [Act.put, List.setIfInBounds_toArray, List.set_cons_zero, List.set_cons_succ, List.getElem_toArray, List.getElem_cons_succ, List.getElem_cons_zero]
            refine wpAnyH_take (i := 12) (oi := _) (v := ?_) rfl (by kernel_rfl) (by kernel_rfl) (by kernel_rfl) (fun _ _ _ h => h) (Or.inl ⟨by rfl, ?_⟩) (by assumption) ?_
            rotate_left
            · intro w hSw
              try dsimp only at hSw
              go_simp
              all_goals with_reducible rfl
            try simp only [Act.put, List.setIfInBounds_toArray, List.set_cons_zero, List.set_cons_succ, List.getElem_toArray, List.getElem_cons_succ, List.getElem_cons_zero]
            refine wpAnyH_take (i := 13) (oi := _) (v := ?_) rfl (by kernel_rfl) (by kernel_rfl) (by kernel_rfl) (fun _ _ _ h => h) (Or.inl ⟨by rfl, ?_⟩) (by assumption) ?_
            rotate_left
            · intro w hSw
              try dsimp only at hSw
              go_simp
              all_goals with_reducible rfl
            try simp only [Act.put, List.setIfInBounds_toArray, List.set_cons_zero, List.set_cons_succ, List.getElem_toArray, List.getElem_cons_succ, List.getElem_cons_zero]
            refine wpAnyH_take (i := 14) (oi := _) (v := ?_) rfl (by kernel_rfl) (by kernel_rfl) (by kernel_rfl) (fun _ _ _ h => h) (Or.inl ⟨by rfl, ?_⟩) (by assumption) ?_
            rotate_left
            · intro w hSw
              try dsimp only at hSw
              go_simp
              all_goals with_reducible rfl
            try simp only [Act.put, List.setIfInBounds_toArray, List.set_cons_zero, List.set_cons_succ, List.getElem_toArray, List.getElem_cons_succ, List.getElem_cons_zero]
            refine wpAnyH_take (i := 15) (oi := _) (v := ?_) rfl (by kernel_rfl) (by kernel_rfl) (by kernel_rfl) (fun _ _ _ h => h) (Or.inl ⟨by rfl, ?_⟩) (by assumption) ?_
            rotate_left
            · intro w hSw
              try dsimp only at hSw
              go_simp
              all_goals with_reducible rfl
            try simp only [Act.put, List.setIfInBounds_toArray, List.set_cons_zero, List.set_cons_succ, List.getElem_toArray, List.getElem_cons_succ, List.getElem_cons_zero]
            refine wpAnyH_take (i := 16) (oi := _) (v := ?_) rfl (by kernel_rfl) (by kernel_rfl) (by kernel_rfl) (fun _ _ _ h => h) (Or.inl ⟨by rfl, ?_⟩) (by assumption) ?_
            rotate_left
            · intro w hSw
              try dsimp only at hSw
              go_simp
              all_goals with_reducible rfl
            try simp only [Act.put, List.setIfInBounds_toArray, List.set_cons_zero, List.set_cons_succ, List.getElem_toArray, List.getElem_cons_succ, List.getElem_cons_zero]
            refine wpAnyH_take (i := 17) (oi := _) (v := ?_) rfl (by kernel_rfl) (by kernel_rfl) (by kernel_rfl) (fun _ _ _ h => h) (Or.inl ⟨by rfl, ?_⟩) (by assumption) ?_
            rotate_left
            · intro w hSw
              try dsimp only at hSw
              go_simp
              all_goals with_reducible rfl
            try simp only [Act.put, List.setIfInBounds_toArray, List.set_cons_zero, List.set_cons_succ, List.getElem_toArray, List.getElem_cons_succ, List.getElem_cons_zero]
            refine wpAnyH_ready (rs := [18]) (by kernel_rfl) (by simp) ?_
            refine AllReadyH.cons (o := _) rfl (fun K hK => ?_) AllReadyH.nil
            go_simp
            refine Calls.mono (inClass_sq B1 b1 bs1 rA rc rx _ ib hin HBB.out) ?_
            rintro e v3 ⟨rfl, hb⟩
            have im := im.next hb
            have ia := ia.next hb
            have ib := ib.next hb
            have hin := hin.next hb
            have hbd := hbd.trans (hb.mono hbd.size)
            have hS3 : v3.cell? ⟨pb, j, none⟩ = some (Value.slice rA rx.length rc) := (hb.cell hpl).trans hS2
            have hpl : pb < v3.heap.size := by have := hb.size; omega
            clear hb
            go_wp2_with fail
            refine hK.out _ _ (hS3) (fun hHeld => ?_)
            clear hK K
            try simp only [Act.put, List.setIfInBounds_toArray, List.set_cons_zero, List.set_cons_succ, List.getElem_toArray, List.getElem_cons_succ, List.getElem_cons_zero]
            refine wpAnyH_take (i := 19) (oi := _) (v := ?_) rfl (by kernel_rfl) (by kernel_rfl) (by kernel_rfl) (fun _ _ _ h => h) (Or.inl ⟨by rfl, ?_⟩) (by assumption) ?_
            rotate_left
            · intro w hSw
              try dsimp only at hSw
              go_simp
              all_goals with_reducible rfl
            try simp only [Act.put, List.setIfInBounds_toArray, List.set_cons_zero, List.set_cons_succ, List.getElem_toArray, List.getElem_cons_succ, List.getElem_cons_zero]
            refine wpAnyH_take (i := 20) (oi := _) (v := ?_) rfl (by kernel_rfl) (by kernel_rfl) (by kernel_rfl) (fun _ _ _ h => h) (Or.inl ⟨by rfl, ?_⟩) (by assumption) ?_
            rotate_left
            · intro w hSw
              try dsimp only at hSw
              go_simp
              all_goals with_reducible rfl
            try simp only [Act.put, List.setIfInBounds_toArray, List.set_cons_zero, List.set_cons_succ, List.getElem_toArray, List.getElem_cons_succ, List.getElem_cons_zero]
            refine wpAnyH_done (by kernel_rfl) ?_ _
            go_wp2_with fail
            go_roundw
            case rel => exact ⟨j + 1, by omega, by go_num, hbd⟩
            case measure => simp [intOf]; omega
          · have HZE := Lib.hid (show inClassB (mr.map Row.xs) rx = true by rw [HZE.out]; rfl)
            go_wp2_with fail
            refine wp_region_held_drew (S := (fun v => v.cell? ⟨pb, j, none⟩ = some (Value.slice rA rx.length rc))) (by kernel_rfl) hS0 (fun hHeld => ?_)
            refine wpAnyH_take (i := 0) (oi := _) (v := ?_) rfl (by kernel_rfl) (by kernel_rfl) (by kernel_rfl) (fun _ _ _ h => h) (Or.inl ⟨by rfl, ?_⟩) (by assumption) ?_
            rotate_left
            · intro w hSw
              try dsimp only at hSw
              go_simp
              all_goals with_reducible rfl
            try simp only [Act.put, List.setIfInBounds_toArray, List.set_cons_zero, List.set_cons_succ, List.getElem_toArray, List.getElem_cons_succ, List.getElem_cons_zero]
            refine wpAnyH_take (i := 1) (oi := _) (v := ?_) rfl (by kernel_rfl) (by kernel_rfl) (by kernel_rfl) (fun _ _ _ h => h) (Or.inl ⟨by rfl, ?_⟩) (by assumption) ?_
            rotate_left
            · intro w hSw
              try dsimp only at hSw
              go_simp
              all_goals with_reducible rfl
            try simp only [Act.put, List.setIfInBounds_toArray, List.set_cons_zero, List.set_cons_succ, List.getElem_toArray, List.getElem_cons_succ, List.getElem_cons_zero]
            refine wpAnyH_take (i := 2) (oi := _) (v := ?_) rfl (by kernel_rfl) (by kernel_rfl) (by kernel_rfl) (fun _ _ _ h => h) (Or.inl ⟨by rfl, ?_⟩) (by assumption) ?_
            rotate_left
            · intro w hSw
              try dsimp only at hSw
              go_simp
              all_goals with_reducible rfl
            try simp only [Act.put, List.setIfInBounds_toArray, List.set_cons_zero, List.set_cons_succ, List.getElem_toArray, List.getElem_cons_succ, List.getElem_cons_zero]
            refine wpAnyH_take (i := 3) (oi := _) (v := ?_) rfl (by kernel_rfl) (by kernel_rfl) (by kernel_rfl) (fun _ _ _ h => h) (Or.inl ⟨by rfl, ?_⟩) (by assumption) ?_
            rotate_left
            · intro w hSw
              try dsimp only at hSw
              go_simp
              all_goals with_reducible rfl
            try simp only [Act.put, List.setIfInBounds_toArray, List.set_cons_zero, List.set_cons_succ, List.getElem_toArray, List.getElem_cons_succ, List.getElem_cons_zero]
            refine wpAnyH_take (i := 4) (oi := _) (v := ?_) rfl (by kernel_rfl) (by kernel_rfl) (by kernel_rfl) (fun _ _ _ h => h) (Or.inl ⟨by rfl, ?_⟩) (by assumption) ?_
            rotate_left
            · intro w hSw
              try dsimp only at hSw
              go_simp
              all_goals with_reducible rfl
            try simp only [Act.put, List.setIfInBounds_toArray, List.set_cons_zero, List.set_cons_succ, List.getElem_toArray, List.getElem_cons_succ, List.getElem_cons_zero]
            refine wpAnyH_take (i := 6) (oi := _) (v := ?_) rfl (by kernel_rfl) (by kernel_rfl) (by kernel_rfl) (fun _ _ _ h => h) (Or.inl ⟨by rfl, ?_⟩) (by assumption) ?_
            rotate_left
            · intro w hSw
              try dsimp only at hSw
              go_simp
              all_goals with_reducible rfl
            try simp only [Act.put, List.setIfInBounds_toArray, List.set_cons_zero, List.set_cons_succ, List.getElem_toArray, List.getElem_cons_succ, List.getElem_cons_zero]
            refine wpAnyH_take (i := 7) (oi := _) (v := ?_) rfl (by kernel_rfl) (by kernel_rfl) (by kernel_rfl) (fun _ _ _ h => h) (Or.inl ⟨by rfl, ?_⟩) (by assumption) ?_
            rotate_left
            · intro w hSw
              try dsimp only at hSw
              go_simp
              all_goals with_reducible rfl
            try simp only [Act.put, List.setIfInBounds_toArray, List.set_cons_zero, List.set_cons_succ, List.getElem_toArray, List.getElem_cons_succ, List.getElem_cons_zero]
            refine wpAnyH_take (i := 8) (oi := _) (v := ?_) rfl (by kernel_rfl) (by kernel_rfl) (by kernel_rfl) (fun _ _ _ h => h) (Or.inl ⟨by rfl, ?_⟩) (by assumption) ?_
            rotate_left
            · intro w hSw
              try dsimp only at hSw
              go_simp
              all_goals with_reducible rfl
            try simp only [Act.put, List.setIfInBounds_toArray, List.set_cons_zero, List.set_cons_succ, List.getElem_toArray, List.getElem_cons_succ, List.getElem_cons_zero]
            refine wpAnyH_take (i := 9) (oi := _) (v := ?_) rfl (by kernel_rfl) (by kernel_rfl) (by kernel_rfl) (fun _ _ _ h => h) (Or.inl ⟨by rfl, ?_⟩) (by assumption) ?_
            rotate_left
            · intro w hSw
              try dsimp only at hSw
              go_simp
              all_goals with_reducible rfl
            try simp only [Act.put, List.setIfInBounds_toArray, List.set_cons_zero, List.set_cons_succ, List.getElem_toArray, List.getElem_cons_succ, List.getElem_cons_zero]
            refine wpAnyH_take (i := 10) (oi := _) (v := ?_) rfl (by kernel_rfl) (by kernel_rfl) (by kernel_rfl) (fun _ _ _ h => h) (Or.inl ⟨by rfl, ?_⟩) (by assumption) ?_
            rotate_left
            · intro w hSw
              try dsimp only at hSw
              go_simp
              all_goals with_reducible rfl
            try simp only [Act.put, List.setIfInBounds_toArray, List.set_cons_zero, List.set_cons_succ, List.getElem_toArray, List.getElem_cons_succ, List.getElem_cons_zero]
            refine wpAnyH_ready (rs := [5]) (by kernel_rfl) (by simp) ?_
            refine AllReadyH.cons (o := _) rfl (fun K hK => ?_) AllReadyH.nil
            go_simp
            refine Calls.mono (inClass_sq mA mk mr rA rc rx _ im hin HZE.out) ?_
            rintro e v1 ⟨rfl, hb⟩
            have im := im.next hb
            have ia := ia.next hb
            have ib := ib.next hb
            have hin := hin.next hb
            have hbd := hbd.trans (hb.mono hbd.size)
            have hS1 : v1.cell? ⟨pb, j, none⟩ = some (Value.slice rA rx.length rc) := (hb.cell hpl).trans hS0
            have hpl : pb < v1.heap.size := by have := hb.size; omega
            clear hb
            go_wp2_with fail
            refine hK.out _ _ (hS1) (fun hHeld => ?_)
            clear hK K
            try simp only [Act.put, List.setIfInBounds_toArray, List.set_cons_zero, List.set_cons_succ, List.getElem_toArray, List.getElem_cons_succ, List.getElem_cons_zero]
            refine wpAnyH_ready (rs := [11]) (by kernel_rfl) (by simp) ?_
            refine AllReadyH.cons (o := _) rfl (fun K hK => ?_) AllReadyH.nil
            go_simp
            refine Calls.mono (inClass_sq A1 a1 as1 rA rc rx _ ia hin HBA.out) ?_
            rintro e v2 ⟨rfl, hb⟩
            have im := im.next hb
            have ia := ia.next hb
            have ib := ib.next hb
            have hin := hin.next hb
            have hbd := hbd.trans (hb.mono hbd.size)
            have hS2 : v2.cell? ⟨pb, j, none⟩ = some (Value.slice rA rx.length rc) := (hb.cell hpl).trans hS1
            have hpl : pb < v2.heap.size := by have := hb.size; omega
            clear hb
            go_wp2_with fail
            refine hK.out _ _ (hS2) (fun hHeld => ?_)
            clear hK K
            try simp only [Act.put, List.setIfInBounds_toArray, List.set_cons_zero, List.set_cons_succ, List.getElem_toArray, List.getElem_cons_succ, List.getElem_cons_zero]
            refine wpAnyH_take (i := 12) (oi := _) (v := ?_) rfl (by kernel_rfl) (by kernel_rfl) (by kernel_rfl) (fun _ _ _ h => h) (Or.inl ⟨by rfl, ?_⟩) (by assumption) ?_
            rotate_left
            · intro w hSw
              try dsimp only at hSw
              go_simp
              all_goals with_reducible rfl
            try simp only [Act.put, List.setIfInBounds_toArray, List.set_cons_zero, List.set_cons_succ, List.getElem_toArray, List.getElem_cons_succ, List.getElem_cons_zero]
            refine wpAnyH_take (i := 13) (oi := _) (v := ?_) rfl (by kernel_rfl) (by kernel_rfl) (by kernel_rfl) (fun _ _ _ h => h) (Or.inl ⟨by rfl, ?_⟩) (by assumption) ?_
            rotate_left
            · intro w hSw
              try dsimp only at hSw
              go_simp
              all_goals with_reducible rfl
            try simp only [Act.put, List.setIfInBounds_toArray, List.set_cons_zero, List.set_cons_succ, List.getElem_toArray, List.getElem_cons_succ, List.getElem_cons_zero]
            refine wpAnyH_take (i := 14) (oi := _) (v := ?_) rfl (by kernel_rfl) (by kernel_rfl) (by kernel_rfl) (fun _ _ _ h => h) (Or.inl ⟨by rfl, ?_⟩) (by assumption) ?_
            rotate_left
            · intro w hSw
              try dsimp only at hSw
              go_simp
              all_goals with_reducible rfl
            try simp only [Act.put, List.setIfInBounds_toArray, List.set_cons_zero, List.set_cons_succ, List.getElem_toArray, List.getElem_cons_succ, List.getElem_cons_zero]
            refine wpAnyH_take (i := 15) (oi := _) (v := ?_) rfl (by kernel_rfl) (by kernel_rfl) (by kernel_rfl) (fun _ _ _ h => h) (Or.inl ⟨by rfl, ?_⟩) (by assumption) ?_
            rotate_left
            · intro w hSw
              try dsimp only at hSw
              go_simp
              all_goals with_reducible rfl
            try simp only [Act.put, List.setIfInBounds_toArray, List.set_cons_zero, List.set_cons_succ, List.getElem_toArray, List.getElem_cons_succ, List.getElem_cons_zero]
            refine wpAnyH_take (i := 16) (oi := _) (v := ?_) rfl (by kernel_rfl) (by kernel_rfl) (by kernel_rfl) (fun _ _ _ h => h) (Or.inl ⟨by rfl, ?_⟩) (by assumption) ?_
            rotate_left
            · intro w hSw
              try dsimp only at hSw
              go_simp
              all_goals with_reducible rfl
            try simp only [Act.put, List.setIfInBounds_toArray, List.set_cons_zero, List.set_cons_succ, List.getElem_toArray, List.getElem_cons_succ, List.getElem_cons_zero]
            refine wpAnyH_take (i := 17) (oi := _) (v := ?_) rfl (by kernel_rfl) (by kernel_rfl) (by kernel_rfl) (fun _ _ _ h => h) (Or.inl ⟨by rfl, ?_⟩) (by assumption) ?_
            rotate_left
            · intro w hSw
              try dsimp only at hSw
              go_simp
              all_goals with_reducible rfl
            try simp only [Act.put, List.setIfInBounds_toArray, List.set_cons_zero, List.set_cons_succ, List.getElem_toArray, List.getElem_cons_succ, List.getElem_cons_zero]
            refine wpAnyH_ready (rs := [18]) (by kernel_rfl) (by simp) ?_
            refine AllReadyH.cons (o := _) rfl (fun K hK => ?_) AllReadyH.nil
            go_simp
            refine Calls.mono (inClass_sq B1 b1 bs1 rA rc rx _ ib hin HBB.out) ?_
            rintro e v3 ⟨rfl, hb⟩
            have im := im.next hb
            have ia := ia.next hb
            have ib := ib.next hb
            have hin := hin.next hb
            have hbd := hbd.trans (hb.mono hbd.size)
            have hS3 : v3.cell? ⟨pb, j, none⟩ = some (Value.slice rA rx.length rc) := (hb.cell hpl).trans hS2
            have hpl : pb < v3.heap.size := by have := hb.size; omega
            clear hb
            go_wp2_with fail
            refine hK.out _ _ (hS3) (fun hHeld => ?_)
            clear hK K
            try simp only [Act.put, List.setIfInBounds_toArray, List.set_cons_zero, List.set_cons_succ, List.getElem_toArray, List.getElem_cons_succ, List.getElem_cons_zero]
            refine wpAnyH_take (i := 19) (oi := _) (v := ?_) rfl (by kernel_rfl) (by kernel_rfl) (by kernel_rfl) (fun _ _ _ h => h) (Or.inl ⟨by rfl, ?_⟩) (by assumption) ?_
            rotate_left
            · intro w hSw
              try dsimp only at hSw
              go_simp
              all_goals with_reducible rfl
            try simp only [Act.put, List.setIfInBounds_toArray, List.set_cons_zero, List.set_cons_succ, List.getElem_toArray, List.getElem_cons_succ, List.getElem_cons_zero]
            refine wpAnyH_take (i := 20) (oi := _) (v := ?_) rfl (by kernel_rfl) (by kernel_rfl) (by kernel_rfl) (fun _ _ _ h => h) (Or.inl ⟨by rfl, ?_⟩) (by assumption) ?_
            rotate_left
            · intro w hSw
              try dsimp only at hSw
              go_simp
              all_goals with_reducible rfl
            try simp only [Act.put, List.setIfInBounds_toArray, List.set_cons_zero, List.set_cons_succ, List.getElem_toArray, List.getElem_cons_succ, List.getElem_cons_zero]
            refine wpAnyH_done (by kernel_rfl) ?_ _
            go_wp2_with fail
            go_roundw
            case rel => exact ⟨j + 1, by omega, by go_num, hbd⟩
            case measure => simp [intOf]; omega
      · obtain rfl : j = qs.length := by omega
        have hbe := hbC.trans (hb.mono hbC.size)
        go_wp2_with fail
        go_meet
        case rel => exact hbe
  have hbz := hcut
  obtain ⟨q4, rfl⟩ : ∃ w', w' = wc := ⟨_, rfl⟩
  replace ia := ia.next hbz
  replace ib := ib.next hbz
  replace im := im.next hbz
  replace if_ := if_.next hbz
  replace HB := HB.trans (hbz.mono HB.size)
  clear hbz
  clear im ia ib
  have HC := Lib.hid (finite_impl F fk fs q4 if_)
  go_wp2_with fail
  (with_reducible refine HC.out.mono ?_)
  rintro e x81 ⟨rfl, hb⟩
  clear HC
  replace if_ := if_.next hb
  replace HB := HB.trans (hb.mono HB.size)
  clear hb
  rcases hfi : finG (fs.map Row.xs) with _ | _
  · go_wp2_with fail
    go_ret
    exact ⟨rfl, HB⟩
  have HFI := Lib.hid hfi
  clear hfi
  have hfsl := if_.len
  have HBS := Lib.hid (show basisB (fs.map Row.xs) = true by have := HFI.out; unfold finG at this; simp only [Bool.and_eq_true] at this; exact this.1.1)
  go_wp2_with fail
  go_loopw [30, 31, 32] (fun a b i wr => ∃ k u d : Nat, k ≤ fs.length ∧ i = .int .i64 k ∧ a = .int .i64 u ∧ b = .int .i64 d ∧ Hid (FInv (fs.map Row.xs) k u d) ∧ Below x81.heap.size x81 wr) (fun _ _ i _ => fs.length - (intOf i).toNat)
  case atStart => exact ⟨0, 0, 0, Nat.zero_le _, rfl, rfl, rfl, Lib.hid (finv_zero _), Below.refl _ _⟩
  case round =>
    obtain ⟨k, u, d, hk, rfl, rfl, rfl, HI, hb⟩ := hrel
    have hsz := hb.size
    replace if_ := if_.next hb
    rcases Nat.lt_or_ge k fs.length with hlt | hge
    · obtain ⟨bo, oo, rfl, _, hc⟩ := if_.read.at (by omega)
      have cc := hc k hlt
      have hin := if_.row (List.getElem_mem hlt)
      have hk2 : k < (fs.map Row.xs).length := by rw [List.length_map]; exact hlt
      have hxe : (fs.map Row.xs)[k] = fs[k].xs := List.getElem_map _
      have hne := (basis_at HBS.out k hk2).2.1
      have HI2 := finv_succ HI.out hk2 hne
      rw [hxe] at HI2
      obtain ⟨R1, hR1⟩ : ∃ R1 : Row, R1 = fs[k] := ⟨_, rfl⟩
      rw [← hR1] at cc hin HI2
      clear hc hR1 hxe hne
      obtain ⟨rA, rc, rx⟩ := R1
      have HI2 := Lib.hid HI2
      have hrl := hin.len
      have HC := Lib.hid (straight_any rA rc rx wr hrl hin.rd)
      obtain ⟨p1, hp1⟩ : ∃ b, riseB rx = b := ⟨_, rfl⟩
      obtain ⟨p2, hp2⟩ : ∃ b, fallB rx = b := ⟨_, rfl⟩
      have HP2 := Lib.hid (show riseB rx.reverse = p2 by rw [fall_rev, hp2])
      rw [hp1] at HC
      simp only [hp1, hp2] at HI2
      clear hp1 hp2
      go_wp2_with fail
      (with_reducible refine HC.out.mono ?_)
      rintro e t1 ⟨rfl, hd⟩
      have hb0 := below_dr (Below.refl wr.heap.size wr) hd
      have hb1 := below_dr hb hd
      have hin := hin.next hb0
      have cc : t1.cell? _ = _ := (hd.cell _).trans cc
      clear HC hd hb0 hb if_ HI
      have HC := Lib.hid (back_any rA rc rx.length rx t1 rfl hrl hin.rd)
      have hcl := World.block_lt_of_cell? _ _ cc
      rcases p1 with _ | _
      · go_wp2_with fail
        (with_reducible refine HC.out.mono ?_)
        rintro e t2 ⟨V, vk, rfl, _, _, ownV, hb2⟩
        have cc : t2.cell? _ = _ := (hb2.cell hcl).trans cc
        have hb3 := hb1.trans (hb2.mono hb1.size)
        have HD := Lib.hid (straight_any V vk rx.reverse t2 (by rw [List.length_reverse]; exact hrl) (Rd.of_own ownV))
        rw [HP2.out, List.length_reverse] at HD
        clear HC hb2 hb1 ownV hin
        go_wp2_with fail
        (with_reducible refine HD.out.mono ?_)
        rintro e t3 ⟨rfl, hd⟩
        have hb4 := below_dr hb3 hd
        have cc : t3.cell? _ = _ := (hd.cell _).trans cc
        clear HD hb3 hd
        rcases p2 with _ | _
        · go_wp2_with fail
          go_roundw
          case rel => exact ⟨k + 1, u, d, by omega, by go_num, rfl, rfl, HI2, hb4⟩
          case measure => simp [intOf]; omega
        · go_wp2_with fail
          go_roundw
          case rel => exact ⟨k + 1, u, rx.length, by omega, by go_num, rfl, rfl, HI2, hb4⟩
          case measure => simp [intOf]; omega
      · go_wp2_with fail
        (with_reducible refine HC.out.mono ?_)
        rintro e t2 ⟨V, vk, rfl, _, _, ownV, hb2⟩
        have cc : t2.cell? _ = _ := (hb2.cell hcl).trans cc
        have hb3 := hb1.trans (hb2.mono hb1.size)
        have HD := Lib.hid (straight_any V vk rx.reverse t2 (by rw [List.length_reverse]; exact hrl) (Rd.of_own ownV))
        rw [HP2.out, List.length_reverse] at HD
        clear HC hb2 hb1 ownV hin
        go_wp2_with fail
        (with_reducible refine HD.out.mono ?_)
        rintro e t3 ⟨rfl, hd⟩
        have hb4 := below_dr hb3 hd
        have cc : t3.cell? _ = _ := (hd.cell _).trans cc
        clear HD hb3 hd
        rcases p2 with _ | _
        · go_wp2_with fail
          go_roundw
          case rel => exact ⟨k + 1, rx.length, d, by omega, by go_num, rfl, rfl, HI2, hb4⟩
          case measure => simp [intOf]; omega
        · go_wp2_with fail
          go_roundw
          case rel => exact ⟨k + 1, rx.length, rx.length, by omega, by go_num, rfl, rfl, HI2, hb4⟩
          case measure => simp [intOf]; omega
    · obtain rfl : k = fs.length := by omega
      replace HB := HB.trans (hb.mono HB.size)
      have HE := Lib.hid (finv_end (X := fs.map Row.xs) (by rw [List.length_map]; exact HI.out) HFI.out)
      obtain ⟨u, rfl⟩ : ∃ x, u = x + 1 := ⟨u - 1, by have := HE.out.1; omega⟩
      obtain ⟨d, rfl⟩ : ∃ x, d = x + 1 := ⟨d - 1, by have := HE.out.2.1; omega⟩
      have hu8 : u < 8 := by have := HE.out.2.2.2.2.1; omega
      have hd8 : d < 8 := by have := HE.out.2.2.2.2.2.1; omega
      have e1 : IntKind.i64.wrap (((u + 1 : Nat) : Int) - 1) = (u : Int) := by rw [IntWalk.i64_in _ (by omega)]; omega
      have e2 : IntKind.i64.wrap (((d + 1 : Nat) : Int) - 1) = (d : Int) := by rw [IntWalk.i64_in _ (by omega)]; omega
      have hM : u * d ≤ 49 := Nat.le_trans (Nat.mul_le_mul (show u ≤ 7 by omega) (show d ≤ 7 by omega)) (by omega)
      obtain ⟨M, hMe⟩ : ∃ M, M = u * d := ⟨_, rfl⟩
      have e3 : IntKind.i64.wrap ((u : Int) * (d : Int)) = (M : Int) := by rw [← Int.natCast_mul, ← hMe]; exact IntWalk.i64_in _ (by omega)
      have hm49 : M ≤ 49 := by omega
      have HM := Lib.hid hMe
      clear hMe hM HI hb
      rcases Nat.lt_or_ge M 6 with h6 | h6
      · have g1 : decide ((M : Int) < 6) = true := decide_eq_true (by omega)
        have e4 : IntKind.i64.wrap ((M : Int) + 1) = (M : Int) + 1 := IntWalk.i64_in _ (by omega)
        have HN := Lib.hid (show clG (fs.map Row.xs) ((M : Int) + 1) = [] by rw [HM.out]; exact fin_none HE.out.2.2.2.2.2.2 HE.out.2.2.1 HE.out.2.2.2.1 hu8 hd8 (by rw [← HM.out]; exact h6))
        have HC := Lib.hid (classOf_spec F fk fs ((M : Int) + 1) (by omega) wr if_)
        go_wp2_with fail
        (with_reducible refine HC.out.mono ?_)
        rintro e t1 ⟨V, vk, vs, rfl, hX, _, hb⟩
        have hv0 : vs.length = 0 := by
          have h1 := congrArg List.length hX
          rw [HN.out, List.length_map] at h1
          simpa using h1
        go_wp2_with fail
        go_ret
        exact ⟨rfl, HB.trans (hb.mono HB.size)⟩
      · have g1 : decide ((M : Int) < 6) = false := decide_eq_false (by omega)
        go_wp2_with fail
        go_ret
        exact ⟨rfl, HB⟩
end Go.Proofs.YtodloeonlaljpaaGreat

/- What the arguments of a law read as: from the form's own reading to the words of Base. -/
namespace Go.Proofs.YtodloeonlaljpaaGreat
set_option maxRecDepth 100000
open Go Go.RowKit Go.ChangeShapes Go.WideShapes Go.ChangeAt

theorem ownK : ownKnob Tryz.prog.godebug = none := by kernel_rfl
theorem wf_i64_bounds {n : Int} (h : (Lit.int .i64 n).wf = true) : -9223372036854775808 ≤ n ∧ n ≤ 9223372036854775807 := by
  have hmin : IntKind.i64.min = -9223372036854775808 := rfl
  have hmax : IntKind.i64.max = 9223372036854775807 := rfl
  simp only [Lit.wf, Bool.and_eq_true, decide_eq_true_eq] at h
  omega
theorem cells_int : Tryz.prog.cellsOf 3 = 1 := by kernel_rfl
theorem cells_ints : Tryz.prog.cellsOf 36 = 1 := by kernel_rfl
theorem cells_u8 : Tryz.prog.cellsOf 5 = 1 := by kernel_rfl
theorem laidOutK : laidOutB Tryz.prog = true := by kernel_rfl

section
variable {H : Type} {enc : TypeId × Value → H} {P : Program} {W : World} {base : Nat}

/-- A slice of whole numbers that came in, nil or not, reads as a list. -/
theorem open_intsR {t e : TypeId} {k : IntKind} {v : Value} {d : DataW H} {ps : List MemPlace} (ht : P.underlying t = some (.slice e)) (he : P.underlying e = some (.int k)) (ce : P.cellsOf e = 1)
    (hv : Value.okWide P W .any base t v) (h : DataW.Trod enc P W 0 (fun _ => true) true t v d ps) :
    ∃ (A : Option Addr) (xs : List Int) (c : Nat), v = .slice A xs.length c ∧ xs.length ≤ c ∧ c ≤ maxLen ∧ Rd (Value.int k) W W.heap.size A xs ∧ ∀ n ∈ xs, (Lit.int k n).wf = true := by
  obtain ⟨a0, len, cap, rfl⟩ := okWide_slice ht hv
  obtain ⟨fuel, hf⟩ := h
  rcases open_ints ht he ce hf with ⟨hcs, hx⟩ | ⟨a, len', cap', zs, hcs, _, hl, hm, hz, hx, hcell, hwz⟩
  · simp [Value.cells] at hcs
    obtain ⟨rfl, rfl, rfl⟩ := hcs
    exact ⟨none, [], 0, rfl, Nat.le_refl _, Nat.zero_le _, Rd.nil_, by simp⟩
  · simp [Value.cells] at hcs
    obtain ⟨rfl, rfl, rfl⟩ := hcs
    simp only [if_true] at hz
    have hlen : (zs.take len).length = len := by rw [List.length_take]; omega
    refine ⟨some a, zs.take len, cap, by rw [hlen], by omega, hm, fun h0 => ?_, fun n hn => hwz n (List.mem_of_mem_take hn)⟩
    rw [hlen] at h0
    obtain ⟨b, off, spot⟩ := a
    have hc0 := hcell 0 (by omega)
    have hspot : spot = none := by simpa [Addr.add] using World.cell?_spot hc0
    subst hspot
    refine ⟨b, off, rfl, ?_, fun j hj => ?_⟩
    · have := block_lt_of_cell hc0
      simpa [Addr.add] using this
    · have := hcell j (by omega)
      rw [add_plain] at this
      rw [this]
      simp [List.getD, show j < zs.length by omega]
end
end Go.Proofs.YtodloeonlaljpaaGreat
