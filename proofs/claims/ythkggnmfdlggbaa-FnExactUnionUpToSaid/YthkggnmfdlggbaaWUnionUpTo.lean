/- The walk of FnExactUnionUpTo: every call by its contract. -/
import Derived.Test.YthkggnmfdlggbaaU5
import Derived.Test.YthkggnmfdlggbaaR2
import Derived.Deep.RegionHeld3
namespace Go.Proofs.Ythkggnmfdlggbaa
set_option maxRecDepth 100000
open Go Go.RowKit

set_option maxHeartbeats 2000000 in
set_option maxRecDepth 100000 in
theorem walk_FnExactUnionUpTo (w : World) (A0 : Option Addr) (c0 : Nat) (rs0 : List Row) (ar0 : Arg w rs0 [⟨A0, c0, rs0.map Row.v⟩]) (A1 : Option Addr) (c1 : Nat) (rs1 : List Row) (ar1 : Arg w rs1 [⟨A1, c1, rs1.map Row.v⟩]) (a2 : Int) (wb2 : -9223372036854775808 ≤ a2 ∧ a2 ≤ 9223372036854775807) :
    Calls Try.prog 9 #[.slice A0 rs0.length c0, .slice A1 rs1.length c1, .int .i64 a2] w (Rb w (.bool true)) := by
  have _hq0 := Nat.zero_le (rs0.length + sizeR rs0)
  have _hq1 := Nat.zero_le (rs1.length + sizeR rs1)
  rcases Nat.lt_or_ge 1048576 ((rs0.length + sizeR rs0)) with hbig | hz0
  · go_enter Try.func9, Try.ntmps9
    have HB := Below.refl w.heap.size w
    go_wp2_with fail
    (with_reducible refine (szL_no A0 c0 rs0 (1048576) w (ar0.self) (by omega) (by omega)).mono ?_)
    rintro e v0 ⟨rfl, hb0⟩
    have HB := HB.trans (hb0.mono HB.size)
    go_wp2
    go_ret
    exact ⟨rfl, HB⟩
  rcases Nat.lt_or_ge 1048576 ((rs0.length + sizeR rs0) + (rs1.length + sizeR rs1)) with hbig | hz1
  · go_enter Try.func9, Try.ntmps9
    have HB := Below.refl w.heap.size w
    go_wp2_with fail
    (with_reducible refine (szL_ok A0 c0 rs0 (1048576) w (ar0.self) (by omega) (by omega)).mono ?_)
    rintro e v0 ⟨rfl, hb0⟩
    have HB := HB.trans (hb0.mono HB.size)
    go_wp2_with fail
    (with_reducible refine (szL_no A1 c1 rs1 (1048576 - ((rs0.length : Int) + (sizeR rs0 : Int))) v0 (ar1.below HB) (by omega) (by omega)).mono ?_)
    rintro e v1 ⟨rfl, hb1⟩
    have HB := HB.trans (hb1.mono HB.size)
    go_wp2
    go_ret
    exact ⟨rfl, HB⟩
  go_enter Try.func9, Try.ntmps9
  have HB := Below.refl w.heap.size w
  have r0 := ar0.read
  have r1 := ar1.read
  go_wp2_with fail
  (with_reducible refine (szL_ok A0 c0 rs0 (1048576) w (ar0.self) (by omega) (by omega)).mono ?_)
  rintro e w1 ⟨rfl, hb1⟩
  have sz2 : w.heap.size ≤ w1.heap.size := hb1.size
  have r0 := r0.below (hb1.mono (by omega))
  have r1 := r1.below (hb1.mono (by omega))
  have HB := HB.trans (hb1.mono (by omega))
  go_wp2_with fail
  (with_reducible refine (szL_ok A1 c1 rs1 (1048576 - ((rs0.length : Int) + (sizeR rs0 : Int))) w1 (ar1.below HB) (by omega) (by omega)).mono ?_)
  rintro e w2 ⟨rfl, hb2⟩
  have sz3 : w1.heap.size ≤ w2.heap.size := hb2.size
  have r0 := r0.below (hb2.mono (by omega))
  have r1 := r1.below (hb2.mono (by omega))
  have HB := HB.trans (hb2.mono (by omega))
  go_wp2_with fail
  (with_reducible refine (toL_R A0 c0 rs0 w2 (r0.toL (by omega) (by omega))).mono ?_)
  rintro e w3 ⟨Ap0, cp0, Rp0, rfl, ep0, op0, hb3⟩
  have sz4 : w2.heap.size ≤ w3.heap.size := hb3.size
  have r0 := r0.below (hb3.mono (by omega))
  have r1 := r1.below (hb3.mono (by omega))
  have HB := HB.trans (hb3.mono (by omega))
  have rp0 := op0.read
  have zp0 : Rp0.length ≤ rs0.length := Nat.le_of_eq (map_len ep0)
  have yp0 : sizeR Rp0 ≤ sizeR rs0 := Nat.le_of_eq (map_size ep0)
  go_wp2_with fail
  (with_reducible refine (toL_R A1 c1 rs1 w3 (r1.toL (by omega) (by omega))).mono ?_)
  rintro e w4 ⟨Ap1, cp1, Rp1, rfl, ep1, op1, hb4⟩
  have sz5 : w3.heap.size ≤ w4.heap.size := hb4.size
  have r0 := r0.below (hb4.mono (by omega))
  have r1 := r1.below (hb4.mono (by omega))
  have rp0 := rp0.below (hb4.mono (by omega))
  have op0 := op0.below hb4
  have HB := HB.trans (hb4.mono (by omega))
  have rp1 := op1.read
  have zp1 : Rp1.length ≤ rs1.length := Nat.le_of_eq (map_len ep1)
  have yp1 : sizeR Rp1 ≤ sizeR rs1 := Nat.le_of_eq (map_size ep1)
  go_wp2_with fail
  have ct := unionUpTo_spec Ap0 cp0 Rp0 Ap1 cp1 Rp1 a2 wb2 w4 (rp0.toL (by omega) (by omega)) (rp1.toL (by omega) (by omega))
  try rw [ep0] at ct
  try rw [ep1] at ct
  (with_reducible refine ct.mono ?_)
  clear ct
  rintro e w5 ⟨AW, cW, RW, rfl, eW, oW, hb5⟩
  have sz6 : w4.heap.size ≤ w5.heap.size := hb5.size
  have r0 := r0.below (hb5.mono (by omega))
  have r1 := r1.below (hb5.mono (by omega))
  have rp0 := rp0.below (hb5.mono (by omega))
  have rp1 := rp1.below (hb5.mono (by omega))
  have op0 := op0.below hb5
  have op1 := op1.below hb5
  have HB := HB.trans (hb5.mono (by omega))
  have rW := oW.read
  have zW : RW.length ≤ (unG (rs0.map Row.xs) (rs1.map Row.xs) a2).length := Nat.le_of_eq (map_len1 eW)
  have yW : sizeR RW ≤ sizeX (unG (rs0.map Row.xs) (rs1.map Row.xs) a2) := Nat.le_of_eq (map_size1 eW)
  clear op0 rp0
  clear op1 rp1
  go_wp2_with fail
  (with_reducible refine (toL_R A0 c0 rs0 w5 (r0.toL (by omega) (by omega))).mono ?_)
  rintro e w6 ⟨Ax0, cx0, Rx0, rfl, ex0, ox0, hb6⟩
  have sz7 : w5.heap.size ≤ w6.heap.size := hb6.size
  have r0 := r0.below (hb6.mono (by omega))
  have r1 := r1.below (hb6.mono (by omega))
  have rW := rW.below (hb6.mono (by omega))
  have oW := oW.below hb6
  have HB := HB.trans (hb6.mono (by omega))
  have rx0 := ox0.read
  have zx0 : Rx0.length ≤ rs0.length := Nat.le_of_eq (map_len ex0)
  have yx0 : sizeR Rx0 ≤ sizeR rs0 := Nat.le_of_eq (map_size ex0)
  go_wp2_with fail
  (with_reducible refine (toL_R A1 c1 rs1 w6 (r1.toL (by omega) (by omega))).mono ?_)
  rintro e w7 ⟨Ax1, cx1, Rx1, rfl, ex1, ox1, hb7⟩
  have sz8 : w6.heap.size ≤ w7.heap.size := hb7.size
  have r0 := r0.below (hb7.mono (by omega))
  have r1 := r1.below (hb7.mono (by omega))
  have rW := rW.below (hb7.mono (by omega))
  have rx0 := rx0.below (hb7.mono (by omega))
  have oW := oW.below hb7
  have ox0 := ox0.below hb7
  have HB := HB.trans (hb7.mono (by omega))
  have rx1 := ox1.read
  have zx1 : Rx1.length ≤ rs1.length := Nat.le_of_eq (map_len ex1)
  have yx1 : sizeR Rx1 ≤ sizeR rs1 := Nat.le_of_eq (map_size ex1)
  go_wp2_with fail
  have ct := unionUpTo_impl Ax0 cx0 Rx0 Ax1 cx1 Rx1 a2 wb2 w7 (rx0.toL (by omega) (by omega)) (rx1.toL (by omega) (by omega))
  try rw [ex0] at ct
  try rw [ex1] at ct
  (with_reducible refine ct.mono ?_)
  clear ct
  rintro e w8 ⟨Ag, cg, Rg, rfl, eg, og, hb8⟩
  have sz9 : w7.heap.size ≤ w8.heap.size := hb8.size
  have r0 := r0.below (hb8.mono (by omega))
  have r1 := r1.below (hb8.mono (by omega))
  have rW := rW.below (hb8.mono (by omega))
  have rx0 := rx0.below (hb8.mono (by omega))
  have rx1 := rx1.below (hb8.mono (by omega))
  have oW := oW.below hb8
  have ox0 := ox0.below hb8
  have ox1 := ox1.below hb8
  have HB := HB.trans (hb8.mono (by omega))
  have rg := og.read
  have zg : Rg.length ≤ (unG (rs0.map Row.xs) (rs1.map Row.xs) a2).length := Nat.le_of_eq (map_len1 eg)
  have yg : sizeR Rg ≤ sizeX (unG (rs0.map Row.xs) (rs1.map Row.xs) a2) := Nat.le_of_eq (map_size1 eg)
  have hGl : (unG (rs0.map Row.xs) (rs1.map Row.xs) a2).length + sizeX (unG (rs0.map Row.xs) (rs1.map Row.xs) a2) ≤ 1048576 := (unG_le _ _ _)
  go_wp2_with fail
  (with_reducible refine (eqL_R Ag AW cg cW Rg RW w8 (rg.toL (by omega) (by omega)) (rW.toL (by omega) (by omega)) (eg.trans eW.symm)).mono ?_)
  rintro e w9 ⟨rfl, hb9⟩
  have sz10 : w8.heap.size ≤ w9.heap.size := hb9.size
  have r0 := r0.below (hb9.mono (by omega))
  have r1 := r1.below (hb9.mono (by omega))
  have rW := rW.below (hb9.mono (by omega))
  have rx0 := rx0.below (hb9.mono (by omega))
  have rx1 := rx1.below (hb9.mono (by omega))
  have rg := rg.below (hb9.mono (by omega))
  have oW := oW.below hb9
  have ox0 := ox0.below hb9
  have ox1 := ox1.below hb9
  have og := og.below hb9
  have HB := HB.trans (hb9.mono (by omega))
  go_wp2_with fail
  (with_reducible refine (toL_R A0 c0 rs0 w9 (r0.toL (by omega) (by omega))).mono ?_)
  rintro e w10 ⟨Ay0, cy0, Ry0, rfl, ey0, oy0, hb10⟩
  have sz11 : w9.heap.size ≤ w10.heap.size := hb10.size
  have r0 := r0.below (hb10.mono (by omega))
  have r1 := r1.below (hb10.mono (by omega))
  have rW := rW.below (hb10.mono (by omega))
  have rx0 := rx0.below (hb10.mono (by omega))
  have rx1 := rx1.below (hb10.mono (by omega))
  have rg := rg.below (hb10.mono (by omega))
  have oW := oW.below hb10
  have ox0 := ox0.below hb10
  have ox1 := ox1.below hb10
  have og := og.below hb10
  have HB := HB.trans (hb10.mono (by omega))
  have ry0 := oy0.read
  have zy0 : Ry0.length ≤ rs0.length := Nat.le_of_eq (map_len ey0)
  have yy0 : sizeR Ry0 ≤ sizeR rs0 := Nat.le_of_eq (map_size ey0)
  go_wp2_with fail
  (with_reducible refine (eqL_R Ax0 Ay0 cx0 cy0 Rx0 Ry0 w10 (rx0.toL (by omega) (by omega)) (ry0.toL (by omega) (by omega)) (ex0.trans ey0.symm)).mono ?_)
  rintro e w11 ⟨rfl, hb11⟩
  have sz12 : w10.heap.size ≤ w11.heap.size := hb11.size
  have r0 := r0.below (hb11.mono (by omega))
  have r1 := r1.below (hb11.mono (by omega))
  have rW := rW.below (hb11.mono (by omega))
  have rx0 := rx0.below (hb11.mono (by omega))
  have rx1 := rx1.below (hb11.mono (by omega))
  have rg := rg.below (hb11.mono (by omega))
  have ry0 := ry0.below (hb11.mono (by omega))
  have oW := oW.below hb11
  have ox0 := ox0.below hb11
  have ox1 := ox1.below hb11
  have og := og.below hb11
  have oy0 := oy0.below hb11
  have HB := HB.trans (hb11.mono (by omega))
  clear oy0 ry0
  go_wp2_with fail
  (with_reducible refine (toL_R A1 c1 rs1 w11 (r1.toL (by omega) (by omega))).mono ?_)
  rintro e w12 ⟨Ay1, cy1, Ry1, rfl, ey1, oy1, hb12⟩
  have sz13 : w11.heap.size ≤ w12.heap.size := hb12.size
  have r0 := r0.below (hb12.mono (by omega))
  have r1 := r1.below (hb12.mono (by omega))
  have rW := rW.below (hb12.mono (by omega))
  have rx0 := rx0.below (hb12.mono (by omega))
  have rx1 := rx1.below (hb12.mono (by omega))
  have rg := rg.below (hb12.mono (by omega))
  have oW := oW.below hb12
  have ox0 := ox0.below hb12
  have ox1 := ox1.below hb12
  have og := og.below hb12
  have HB := HB.trans (hb12.mono (by omega))
  have ry1 := oy1.read
  have zy1 : Ry1.length ≤ rs1.length := Nat.le_of_eq (map_len ey1)
  have yy1 : sizeR Ry1 ≤ sizeR rs1 := Nat.le_of_eq (map_size ey1)
  go_wp2_with fail
  (with_reducible refine (eqL_R Ax1 Ay1 cx1 cy1 Rx1 Ry1 w12 (rx1.toL (by omega) (by omega)) (ry1.toL (by omega) (by omega)) (ex1.trans ey1.symm)).mono ?_)
  rintro e w13 ⟨rfl, hb13⟩
  have sz14 : w12.heap.size ≤ w13.heap.size := hb13.size
  have r0 := r0.below (hb13.mono (by omega))
  have r1 := r1.below (hb13.mono (by omega))
  have rW := rW.below (hb13.mono (by omega))
  have rx0 := rx0.below (hb13.mono (by omega))
  have rx1 := rx1.below (hb13.mono (by omega))
  have rg := rg.below (hb13.mono (by omega))
  have ry1 := ry1.below (hb13.mono (by omega))
  have oW := oW.below hb13
  have ox0 := ox0.below hb13
  have ox1 := ox1.below hb13
  have og := og.below hb13
  have oy1 := oy1.below hb13
  have HB := HB.trans (hb13.mono (by omega))
  clear oy1 ry1
  go_wp2_with fail
  (with_reducible refine (markL_R Ax0 cx0 Rx0 _ _ (1) w13 (by omega) (by omega) (by omega) ox0).mono ?_)
  rintro e w14 ⟨rfl, om, sp14⟩
  have sz15 : w13.heap.size ≤ w14.heap.size := sp14.size
  have r0 := r0.span sp14 (by omega) (by omega)
  have r1 := r1.span sp14 (by omega) (by omega)
  have rW := rW.span sp14 (by omega) (by omega)
  clear oW
  clear ox0 rx0
  have ox1 := ox1.span sp14 (.inr (by omega))
  have rx1 := ox1.read
  have og := og.span sp14 (.inr (by omega))
  have rg := og.read
  have ox0 := om
  have rx0 := om.read
  clear om
  have HB := HB.trans (sp14.below (B := w.heap.size) (by omega) (by omega))
  go_wp2_with fail
  (with_reducible refine (markL_R Ax1 cx1 Rx1 _ _ (1 + (sizeR Rx0 : Nat)) w14 (by omega) (by omega) (by omega) ox1).mono ?_)
  rintro e w15 ⟨rfl, om, sp15⟩
  have sz16 : w14.heap.size ≤ w15.heap.size := sp15.size
  have r0 := r0.span sp15 (by omega) (by omega)
  have r1 := r1.span sp15 (by omega) (by omega)
  have rW := rW.span sp15 (by omega) (by omega)
  have rx0 := rx0.span sp15 (by omega) (by omega)
  clear ox1 rx1
  have og := og.span sp15 (.inr (by omega))
  have rg := og.read
  clear ox0
  have ox1 := om
  have rx1 := om.read
  clear om
  have HB := HB.trans (sp15.below (B := w.heap.size) (by omega) (by omega))
  go_wp2_with fail
  (with_reducible refine (eqL_R Ag AW cg cW Rg RW w15 (rg.toL (by omega) (by omega)) (rW.toL (by omega) (by omega)) (eg.trans eW.symm)).mono ?_)
  rintro e w16 ⟨rfl, hb16⟩
  have sz17 : w15.heap.size ≤ w16.heap.size := hb16.size
  have r0 := r0.below (hb16.mono (by omega))
  have r1 := r1.below (hb16.mono (by omega))
  have rW := rW.below (hb16.mono (by omega))
  have rg := rg.below (hb16.mono (by omega))
  have rx0 := rx0.below (hb16.mono (by omega))
  have rx1 := rx1.below (hb16.mono (by omega))
  have og := og.below hb16
  have ox1 := ox1.below hb16
  have HB := HB.trans (hb16.mono (by omega))
  clear  rx0
  clear ox1 rx1
  go_wp2_with fail
  (with_reducible refine (markL_R Ag cg Rg _ _ (1) w16 (by omega) (by omega) (by omega) og).mono ?_)
  rintro e w17 ⟨rfl, om, sp17⟩
  have sz18 : w16.heap.size ≤ w17.heap.size := sp17.size
  have r0 := r0.span sp17 (by omega) (by omega)
  have r1 := r1.span sp17 (by omega) (by omega)
  have rW := rW.span sp17 (by omega) (by omega)
  clear og rg
  have og := om
  have rg := om.read
  clear om
  have HB := HB.trans (sp17.below (B := w.heap.size) (by omega) (by omega))
  go_wp2_with fail
  (with_reducible refine (heldL_R Ag cg _ 1 Rg w17 (by omega) (by omega) (by omega) rg).mono ?_)
  rintro e w18 ⟨rfl, hb18⟩
  have sz19 : w17.heap.size ≤ w18.heap.size := hb18.size
  have r0 := r0.below (hb18.mono (by omega))
  have r1 := r1.below (hb18.mono (by omega))
  have rW := rW.below (hb18.mono (by omega))
  have rg := rg.below (hb18.mono (by omega))
  have og := og.below hb18
  have HB := HB.trans (hb18.mono (by omega))
  go_wp2_with fail
  (with_reducible refine (toL_R A0 c0 rs0 w18 (r0.toL (by omega) (by omega))).mono ?_)
  rintro e w19 ⟨Az0, cz0, Rz0, rfl, ez0, oz0, hb19⟩
  have sz20 : w18.heap.size ≤ w19.heap.size := hb19.size
  have r0 := r0.below (hb19.mono (by omega))
  have r1 := r1.below (hb19.mono (by omega))
  have rW := rW.below (hb19.mono (by omega))
  have rg := rg.below (hb19.mono (by omega))
  have og := og.below hb19
  have HB := HB.trans (hb19.mono (by omega))
  have rz0 := oz0.read
  have zz0 : Rz0.length ≤ rs0.length := Nat.le_of_eq (map_len ez0)
  have yz0 : sizeR Rz0 ≤ sizeR rs0 := Nat.le_of_eq (map_size ez0)
  go_wp2_with fail
  (with_reducible refine (toL_R A1 c1 rs1 w19 (r1.toL (by omega) (by omega))).mono ?_)
  rintro e w20 ⟨Az1, cz1, Rz1, rfl, ez1, oz1, hb20⟩
  have sz21 : w19.heap.size ≤ w20.heap.size := hb20.size
  have r0 := r0.below (hb20.mono (by omega))
  have r1 := r1.below (hb20.mono (by omega))
  have rW := rW.below (hb20.mono (by omega))
  have rg := rg.below (hb20.mono (by omega))
  have rz0 := rz0.below (hb20.mono (by omega))
  have og := og.below hb20
  have oz0 := oz0.below hb20
  have HB := HB.trans (hb20.mono (by omega))
  have rz1 := oz1.read
  have zz1 : Rz1.length ≤ rs1.length := Nat.le_of_eq (map_len ez1)
  have yz1 : sizeR Rz1 ≤ sizeR rs1 := Nat.le_of_eq (map_size ez1)
  go_wp2_with fail
  have ct := unionUpTo_impl Az0 cz0 Rz0 Az1 cz1 Rz1 a2 wb2 w20 (rz0.toL (by omega) (by omega)) (rz1.toL (by omega) (by omega))
  try rw [ez0] at ct
  try rw [ez1] at ct
  (with_reducible refine ct.mono ?_)
  clear ct
  rintro e w21 ⟨Ah, ch, Rh, rfl, eh, oh, hb21⟩
  have sz22 : w20.heap.size ≤ w21.heap.size := hb21.size
  have r0 := r0.below (hb21.mono (by omega))
  have r1 := r1.below (hb21.mono (by omega))
  have rW := rW.below (hb21.mono (by omega))
  have rg := rg.below (hb21.mono (by omega))
  have rz0 := rz0.below (hb21.mono (by omega))
  have rz1 := rz1.below (hb21.mono (by omega))
  have og := og.below hb21
  have oz0 := oz0.below hb21
  have oz1 := oz1.below hb21
  have HB := HB.trans (hb21.mono (by omega))
  have rh := oh.read
  have zh : Rh.length ≤ (unG (rs0.map Row.xs) (rs1.map Row.xs) a2).length := Nat.le_of_eq (map_len1 eh)
  have yh : sizeR Rh ≤ sizeX (unG (rs0.map Row.xs) (rs1.map Row.xs) a2) := Nat.le_of_eq (map_size1 eh)
  go_wp2_with fail
  (with_reducible refine (eqL_R Ah AW ch cW Rh RW w21 (rh.toL (by omega) (by omega)) (rW.toL (by omega) (by omega)) (eh.trans eW.symm)).mono ?_)
  rintro e w22 ⟨rfl, hb22⟩
  have sz23 : w21.heap.size ≤ w22.heap.size := hb22.size
  have r0 := r0.below (hb22.mono (by omega))
  have r1 := r1.below (hb22.mono (by omega))
  have rW := rW.below (hb22.mono (by omega))
  have rg := rg.below (hb22.mono (by omega))
  have rz0 := rz0.below (hb22.mono (by omega))
  have rz1 := rz1.below (hb22.mono (by omega))
  have rh := rh.below (hb22.mono (by omega))
  have og := og.below hb22
  have oz0 := oz0.below hb22
  have oz1 := oz1.below hb22
  have oh := oh.below hb22
  have HB := HB.trans (hb22.mono (by omega))
  go_wp2_with fail
  (with_reducible refine (heldL_R Ag cg _ 1 Rg w22 (by omega) (by omega) (by omega) rg).mono ?_)
  rintro e w23 ⟨rfl, hb23⟩
  have sz24 : w22.heap.size ≤ w23.heap.size := hb23.size
  have r0 := r0.below (hb23.mono (by omega))
  have r1 := r1.below (hb23.mono (by omega))
  have rW := rW.below (hb23.mono (by omega))
  have rg := rg.below (hb23.mono (by omega))
  have rz0 := rz0.below (hb23.mono (by omega))
  have rz1 := rz1.below (hb23.mono (by omega))
  have rh := rh.below (hb23.mono (by omega))
  have og := og.below hb23
  have oz0 := oz0.below hb23
  have oz1 := oz1.below hb23
  have oh := oh.below hb23
  have HB := HB.trans (hb23.mono (by omega))
  go_wp2_with fail
  go_ret
  exact ⟨rfl, HB⟩
end Go.Proofs.Ythkggnmfdlggbaa
