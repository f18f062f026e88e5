/- The walk of FnExactBasisUpTo: every call by its contract. -/
import Derived.Test.YthkggnmfdlggbaaU4
import Derived.Test.YthkggnmfdlggbaaR2
import Derived.Deep.RegionHeld3
namespace Go.Proofs.Ythkggnmfdlggbaa
set_option maxRecDepth 100000
open Go Go.RowKit

set_option maxHeartbeats 2000000 in
set_option maxRecDepth 100000 in
theorem walk_FnExactBasisUpTo (w : World) (A0 : Option Addr) (c0 : Nat) (rs0 : List Row) (ar0 : Arg w rs0 [⟨A0, c0, rs0.map Row.v⟩]) (a1 : Int) (wb1 : -9223372036854775808 ≤ a1 ∧ a1 ≤ 9223372036854775807) :
    Calls Try.prog 8 #[.slice A0 rs0.length c0, .int .i64 a1] w (Rb w (.bool true)) := by
  have _hq0 := Nat.zero_le (rs0.length + sizeR rs0)
  rcases Nat.lt_or_ge 1048576 ((rs0.length + sizeR rs0)) with hbig | hz0
  · go_enter Try.func8, Try.ntmps8
    have HB := Below.refl w.heap.size w
    go_wp2_with fail
    (with_reducible refine (szL_no A0 c0 rs0 (1048576) w (ar0.self) (by omega) (by omega)).mono ?_)
    rintro e v0 ⟨rfl, hb0⟩
    have HB := HB.trans (hb0.mono HB.size)
    go_wp2
    go_ret
    exact ⟨rfl, HB⟩
  go_enter Try.func8, Try.ntmps8
  have HB := Below.refl w.heap.size w
  have r0 := ar0.read
  go_wp2_with fail
  (with_reducible refine (szL_ok A0 c0 rs0 (1048576) w (ar0.self) (by omega) (by omega)).mono ?_)
  rintro e w1 ⟨rfl, hb1⟩
  have sz2 : w.heap.size ≤ w1.heap.size := hb1.size
  have r0 := r0.below (hb1.mono (by omega))
  have HB := HB.trans (hb1.mono (by omega))
  go_wp2_with fail
  (with_reducible refine (toL_R A0 c0 rs0 w1 (r0.toL (by omega) (by omega))).mono ?_)
  rintro e w2 ⟨Ap0, cp0, Rp0, rfl, ep0, op0, hb2⟩
  have sz3 : w1.heap.size ≤ w2.heap.size := hb2.size
  have r0 := r0.below (hb2.mono (by omega))
  have HB := HB.trans (hb2.mono (by omega))
  have rp0 := op0.read
  have zp0 : Rp0.length ≤ rs0.length := Nat.le_of_eq (map_len ep0)
  have yp0 : sizeR Rp0 ≤ sizeR rs0 := Nat.le_of_eq (map_size ep0)
  go_wp2_with fail
  have ct := basisUpTo_spec Ap0 cp0 Rp0 a1 wb1 w2 (rp0.toL (by omega) (by omega))
  try rw [ep0] at ct
  (with_reducible refine ct.mono ?_)
  clear ct
  rintro e w3 ⟨AW, cW, RW, rfl, eW, oW, hb3⟩
  have sz4 : w2.heap.size ≤ w3.heap.size := hb3.size
  have r0 := r0.below (hb3.mono (by omega))
  have rp0 := rp0.below (hb3.mono (by omega))
  have op0 := op0.below hb3
  have HB := HB.trans (hb3.mono (by omega))
  have rW := oW.read
  have zW : RW.length ≤ (bupG (rs0.map Row.xs) a1).length := Nat.le_of_eq (map_len1 eW)
  have yW : sizeR RW ≤ sizeX (bupG (rs0.map Row.xs) a1) := Nat.le_of_eq (map_size1 eW)
  clear op0 rp0
  go_wp2_with fail
  (with_reducible refine (toL_R A0 c0 rs0 w3 (r0.toL (by omega) (by omega))).mono ?_)
  rintro e w4 ⟨Ax0, cx0, Rx0, rfl, ex0, ox0, hb4⟩
  have sz5 : w3.heap.size ≤ w4.heap.size := hb4.size
  have r0 := r0.below (hb4.mono (by omega))
  have rW := rW.below (hb4.mono (by omega))
  have oW := oW.below hb4
  have HB := HB.trans (hb4.mono (by omega))
  have rx0 := ox0.read
  have zx0 : Rx0.length ≤ rs0.length := Nat.le_of_eq (map_len ex0)
  have yx0 : sizeR Rx0 ≤ sizeR rs0 := Nat.le_of_eq (map_size ex0)
  go_wp2_with fail
  have ct := basisUpTo_impl Ax0 cx0 Rx0 a1 wb1 w4 (rx0.toL (by omega) (by omega))
  try rw [ex0] at ct
  (with_reducible refine ct.mono ?_)
  clear ct
  rintro e w5 ⟨Ag, cg, Rg, rfl, eg, og, hb5⟩
  have sz6 : w4.heap.size ≤ w5.heap.size := hb5.size
  have r0 := r0.below (hb5.mono (by omega))
  have rW := rW.below (hb5.mono (by omega))
  have rx0 := rx0.below (hb5.mono (by omega))
  have oW := oW.below hb5
  have ox0 := ox0.below hb5
  have HB := HB.trans (hb5.mono (by omega))
  have rg := og.read
  have zg : Rg.length ≤ (bupG (rs0.map Row.xs) a1).length := Nat.le_of_eq (map_len1 eg)
  have yg : sizeR Rg ≤ sizeX (bupG (rs0.map Row.xs) a1) := Nat.le_of_eq (map_size1 eg)
  have hGl : (bupG (rs0.map Row.xs) a1).length + sizeX (bupG (rs0.map Row.xs) a1) ≤ 1048576 := (bupG_le _ _)
  go_wp2_with fail
  (with_reducible refine (eqL_R Ag AW cg cW Rg RW w5 (rg.toL (by omega) (by omega)) (rW.toL (by omega) (by omega)) (eg.trans eW.symm)).mono ?_)
  rintro e w6 ⟨rfl, hb6⟩
  have sz7 : w5.heap.size ≤ w6.heap.size := hb6.size
  have r0 := r0.below (hb6.mono (by omega))
  have rW := rW.below (hb6.mono (by omega))
  have rx0 := rx0.below (hb6.mono (by omega))
  have rg := rg.below (hb6.mono (by omega))
  have oW := oW.below hb6
  have ox0 := ox0.below hb6
  have og := og.below hb6
  have HB := HB.trans (hb6.mono (by omega))
  go_wp2_with fail
  (with_reducible refine (toL_R A0 c0 rs0 w6 (r0.toL (by omega) (by omega))).mono ?_)
  rintro e w7 ⟨Ay0, cy0, Ry0, rfl, ey0, oy0, hb7⟩
  have sz8 : w6.heap.size ≤ w7.heap.size := hb7.size
  have r0 := r0.below (hb7.mono (by omega))
  have rW := rW.below (hb7.mono (by omega))
  have rx0 := rx0.below (hb7.mono (by omega))
  have rg := rg.below (hb7.mono (by omega))
  have oW := oW.below hb7
  have ox0 := ox0.below hb7
  have og := og.below hb7
  have HB := HB.trans (hb7.mono (by omega))
  have ry0 := oy0.read
  have zy0 : Ry0.length ≤ rs0.length := Nat.le_of_eq (map_len ey0)
  have yy0 : sizeR Ry0 ≤ sizeR rs0 := Nat.le_of_eq (map_size ey0)
  go_wp2_with fail
  (with_reducible refine (eqL_R Ax0 Ay0 cx0 cy0 Rx0 Ry0 w7 (rx0.toL (by omega) (by omega)) (ry0.toL (by omega) (by omega)) (ex0.trans ey0.symm)).mono ?_)
  rintro e w8 ⟨rfl, hb8⟩
  have sz9 : w7.heap.size ≤ w8.heap.size := hb8.size
  have r0 := r0.below (hb8.mono (by omega))
  have rW := rW.below (hb8.mono (by omega))
  have rx0 := rx0.below (hb8.mono (by omega))
  have rg := rg.below (hb8.mono (by omega))
  have ry0 := ry0.below (hb8.mono (by omega))
  have oW := oW.below hb8
  have ox0 := ox0.below hb8
  have og := og.below hb8
  have oy0 := oy0.below hb8
  have HB := HB.trans (hb8.mono (by omega))
  clear oy0 ry0
  go_wp2_with fail
  (with_reducible refine (markL_R Ax0 cx0 Rx0 _ _ (1) w8 (by omega) (by omega) (by omega) ox0).mono ?_)
  rintro e w9 ⟨rfl, om, sp9⟩
  have sz10 : w8.heap.size ≤ w9.heap.size := sp9.size
  have r0 := r0.span sp9 (by omega) (by omega)
  have rW := rW.span sp9 (by omega) (by omega)
  clear oW
  clear ox0 rx0
  have og := og.span sp9 (.inr (by omega))
  have rg := og.read
  have ox0 := om
  have rx0 := om.read
  clear om
  have HB := HB.trans (sp9.below (B := w.heap.size) (by omega) (by omega))
  go_wp2_with fail
  (with_reducible refine (eqL_R Ag AW cg cW Rg RW w9 (rg.toL (by omega) (by omega)) (rW.toL (by omega) (by omega)) (eg.trans eW.symm)).mono ?_)
  rintro e w10 ⟨rfl, hb10⟩
  have sz11 : w9.heap.size ≤ w10.heap.size := hb10.size
  have r0 := r0.below (hb10.mono (by omega))
  have rW := rW.below (hb10.mono (by omega))
  have rg := rg.below (hb10.mono (by omega))
  have rx0 := rx0.below (hb10.mono (by omega))
  have og := og.below hb10
  have ox0 := ox0.below hb10
  have HB := HB.trans (hb10.mono (by omega))
  clear ox0 rx0
  go_wp2_with fail
  (with_reducible refine (markL_R Ag cg Rg _ _ (1) w10 (by omega) (by omega) (by omega) og).mono ?_)
  rintro e w11 ⟨rfl, om, sp11⟩
  have sz12 : w10.heap.size ≤ w11.heap.size := sp11.size
  have r0 := r0.span sp11 (by omega) (by omega)
  have rW := rW.span sp11 (by omega) (by omega)
  clear og rg
  have og := om
  have rg := om.read
  clear om
  have HB := HB.trans (sp11.below (B := w.heap.size) (by omega) (by omega))
  go_wp2_with fail
  (with_reducible refine (heldL_R Ag cg _ 1 Rg w11 (by omega) (by omega) (by omega) rg).mono ?_)
  rintro e w12 ⟨rfl, hb12⟩
  have sz13 : w11.heap.size ≤ w12.heap.size := hb12.size
  have r0 := r0.below (hb12.mono (by omega))
  have rW := rW.below (hb12.mono (by omega))
  have rg := rg.below (hb12.mono (by omega))
  have og := og.below hb12
  have HB := HB.trans (hb12.mono (by omega))
  go_wp2_with fail
  (with_reducible refine (toL_R A0 c0 rs0 w12 (r0.toL (by omega) (by omega))).mono ?_)
  rintro e w13 ⟨Az0, cz0, Rz0, rfl, ez0, oz0, hb13⟩
  have sz14 : w12.heap.size ≤ w13.heap.size := hb13.size
  have r0 := r0.below (hb13.mono (by omega))
  have rW := rW.below (hb13.mono (by omega))
  have rg := rg.below (hb13.mono (by omega))
  have og := og.below hb13
  have HB := HB.trans (hb13.mono (by omega))
  have rz0 := oz0.read
  have zz0 : Rz0.length ≤ rs0.length := Nat.le_of_eq (map_len ez0)
  have yz0 : sizeR Rz0 ≤ sizeR rs0 := Nat.le_of_eq (map_size ez0)
  go_wp2_with fail
  have ct := basisUpTo_impl Az0 cz0 Rz0 a1 wb1 w13 (rz0.toL (by omega) (by omega))
  try rw [ez0] at ct
  (with_reducible refine ct.mono ?_)
  clear ct
  rintro e w14 ⟨Ah, ch, Rh, rfl, eh, oh, hb14⟩
  have sz15 : w13.heap.size ≤ w14.heap.size := hb14.size
  have r0 := r0.below (hb14.mono (by omega))
  have rW := rW.below (hb14.mono (by omega))
  have rg := rg.below (hb14.mono (by omega))
  have rz0 := rz0.below (hb14.mono (by omega))
  have og := og.below hb14
  have oz0 := oz0.below hb14
  have HB := HB.trans (hb14.mono (by omega))
  have rh := oh.read
  have zh : Rh.length ≤ (bupG (rs0.map Row.xs) a1).length := Nat.le_of_eq (map_len1 eh)
  have yh : sizeR Rh ≤ sizeX (bupG (rs0.map Row.xs) a1) := Nat.le_of_eq (map_size1 eh)
  go_wp2_with fail
  (with_reducible refine (eqL_R Ah AW ch cW Rh RW w14 (rh.toL (by omega) (by omega)) (rW.toL (by omega) (by omega)) (eh.trans eW.symm)).mono ?_)
  rintro e w15 ⟨rfl, hb15⟩
  have sz16 : w14.heap.size ≤ w15.heap.size := hb15.size
  have r0 := r0.below (hb15.mono (by omega))
  have rW := rW.below (hb15.mono (by omega))
  have rg := rg.below (hb15.mono (by omega))
  have rz0 := rz0.below (hb15.mono (by omega))
  have rh := rh.below (hb15.mono (by omega))
  have og := og.below hb15
  have oz0 := oz0.below hb15
  have oh := oh.below hb15
  have HB := HB.trans (hb15.mono (by omega))
  go_wp2_with fail
  (with_reducible refine (heldL_R Ag cg _ 1 Rg w15 (by omega) (by omega) (by omega) rg).mono ?_)
  rintro e w16 ⟨rfl, hb16⟩
  have sz17 : w15.heap.size ≤ w16.heap.size := hb16.size
  have r0 := r0.below (hb16.mono (by omega))
  have rW := rW.below (hb16.mono (by omega))
  have rg := rg.below (hb16.mono (by omega))
  have rz0 := rz0.below (hb16.mono (by omega))
  have rh := rh.below (hb16.mono (by omega))
  have og := og.below hb16
  have oz0 := oz0.below hb16
  have oh := oh.below hb16
  have HB := HB.trans (hb16.mono (by omega))
  go_wp2_with fail
  go_ret
  exact ⟨rfl, HB⟩
end Go.Proofs.Ythkggnmfdlggbaa
