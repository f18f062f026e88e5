/- The walk of FnExactIsWithin: every call by its contract. -/
import Derived.Test.YtmkaelefljjamaaG3
import Derived.Test.YtmkaelefljjamaaR2
import Derived.Deep.RegionHeld3
namespace Go.Proofs.Ytmkaelefljjamaa
set_option maxRecDepth 100000
open Go Go.RowKit

set_option maxHeartbeats 2000000 in
set_option maxRecDepth 100000 in
theorem walk_FnExactIsWithin (w : World) (A0 : Option Addr) (c0 : Nat) (rs0 : List Row) (ar0 : Arg w rs0 [⟨A0, c0, rs0.map Row.v⟩]) (A1 : Option Addr) (c1 : Nat) (rs1 : List Row) (ar1 : Arg w rs1 [⟨A1, c1, rs1.map Row.v⟩]) :
    Calls Try.prog 5 #[.slice A0 rs0.length c0, .slice A1 rs1.length c1] w (Rb w (.bool true)) := by
  have _hq0 := Nat.zero_le (rs0.length + sizeR rs0)
  have _hq1 := Nat.zero_le (rs1.length + sizeR rs1)
  rcases Nat.lt_or_ge 1048576 ((rs0.length + sizeR rs0)) with hbig | hz0
  · go_enter Try.func5, Try.ntmps5
    have HB := Below.refl w.heap.size w
    go_wp2_with fail
    (with_reducible refine (szL_no A0 c0 rs0 (1048576) w (ar0.self) (by omega) (by omega)).mono ?_)
    rintro e v0 ⟨rfl, hb0⟩
    have HB := HB.trans (hb0.mono HB.size)
    go_wp2
    go_ret
    exact ⟨rfl, HB⟩
  rcases Nat.lt_or_ge 1048576 ((rs0.length + sizeR rs0) + (rs1.length + sizeR rs1)) with hbig | hz1
  · go_enter Try.func5, Try.ntmps5
    have HB := Below.refl w.heap.size w
    go_wp2_with fail
    (with_reducible refine (szL_ok A0 c0 rs0 (1048576) w (ar0.self) (by omega) (by omega)).mono ?_)
    rintro e v0 ⟨rfl, hb0⟩
    have HB := HB.trans (hb0.mono HB.size)
    go_wp2_with fail
    (with_reducible refine (szL_no A1 c1 rs1 (1048576 - ((rs0.length : Int) + (sizeR rs0 : Int))) v0 (ar1.below HB) (by omega) (by omega)).mono ?_)
    rintro e v1 ⟨rfl, hb1⟩
    have HB := HB.trans (hb1.mono HB.size)
    go_wp2
    go_ret
    exact ⟨rfl, HB⟩
  go_enter Try.func5, Try.ntmps5
  have HB := Below.refl w.heap.size w
  have r0 := ar0.read
  have r1 := ar1.read
  go_wp2_with fail
  (with_reducible refine (szL_ok A0 c0 rs0 (1048576) w (ar0.self) (by omega) (by omega)).mono ?_)
  rintro e w1 ⟨rfl, hb1⟩
  have sz2 : w.heap.size ≤ w1.heap.size := hb1.size
  have r0 := r0.below (hb1.mono (by omega))
  have r1 := r1.below (hb1.mono (by omega))
  have HB := HB.trans (hb1.mono (by omega))
  go_wp2_with fail
  (with_reducible refine (szL_ok A1 c1 rs1 (1048576 - ((rs0.length : Int) + (sizeR rs0 : Int))) w1 (ar1.below HB) (by omega) (by omega)).mono ?_)
  rintro e w2 ⟨rfl, hb2⟩
  have sz3 : w1.heap.size ≤ w2.heap.size := hb2.size
  have r0 := r0.below (hb2.mono (by omega))
  have r1 := r1.below (hb2.mono (by omega))
  have HB := HB.trans (hb2.mono (by omega))
  go_wp2_with fail
  (with_reducible refine (toL_R A0 c0 rs0 w2 (r0.toL (by omega) (by omega))).mono ?_)
  rintro e w3 ⟨Ap0, cp0, Rp0, rfl, ep0, op0, hb3⟩
  have sz4 : w2.heap.size ≤ w3.heap.size := hb3.size
  have r0 := r0.below (hb3.mono (by omega))
  have r1 := r1.below (hb3.mono (by omega))
  have HB := HB.trans (hb3.mono (by omega))
  have rp0 := op0.read
  have zp0 : Rp0.length ≤ rs0.length := Nat.le_of_eq (map_len ep0)
  have yp0 : sizeR Rp0 ≤ sizeR rs0 := Nat.le_of_eq (map_size ep0)
  go_wp2_with fail
  (with_reducible refine (toL_R A1 c1 rs1 w3 (r1.toL (by omega) (by omega))).mono ?_)
  rintro e w4 ⟨Ap1, cp1, Rp1, rfl, ep1, op1, hb4⟩
  have sz5 : w3.heap.size ≤ w4.heap.size := hb4.size
  have r0 := r0.below (hb4.mono (by omega))
  have r1 := r1.below (hb4.mono (by omega))
  have rp0 := rp0.below (hb4.mono (by omega))
  have op0 := op0.below hb4
  have HB := HB.trans (hb4.mono (by omega))
  have rp1 := op1.read
  have zp1 : Rp1.length ≤ rs1.length := Nat.le_of_eq (map_len ep1)
  have yp1 : sizeR Rp1 ≤ sizeR rs1 := Nat.le_of_eq (map_size ep1)
  go_wp2_with fail
  have ct := within_spec Ap0 cp0 Rp0 Ap1 cp1 Rp1 w4 (rp0.toL (by omega) (by omega)) (rp1.toL (by omega) (by omega))
  try rw [ep0] at ct
  try rw [ep1] at ct
  (with_reducible refine ct.mono ?_)
  clear ct
  rintro e w5 ⟨rfl, hb5⟩
  have sz6 : w4.heap.size ≤ w5.heap.size := hb5.size
  have r0 := r0.below (hb5.mono (by omega))
  have r1 := r1.below (hb5.mono (by omega))
  have rp0 := rp0.below (hb5.mono (by omega))
  have rp1 := rp1.below (hb5.mono (by omega))
  have op0 := op0.below hb5
  have op1 := op1.below hb5
  have HB := HB.trans (hb5.mono (by omega))
  clear op0 rp0
  clear op1 rp1
  go_wp2_with fail
  (with_reducible refine (toL_R A0 c0 rs0 w5 (r0.toL (by omega) (by omega))).mono ?_)
  rintro e w6 ⟨Ax0, cx0, Rx0, rfl, ex0, ox0, hb6⟩
  have sz7 : w5.heap.size ≤ w6.heap.size := hb6.size
  have r0 := r0.below (hb6.mono (by omega))
  have r1 := r1.below (hb6.mono (by omega))
  have HB := HB.trans (hb6.mono (by omega))
  have rx0 := ox0.read
  have zx0 : Rx0.length ≤ rs0.length := Nat.le_of_eq (map_len ex0)
  have yx0 : sizeR Rx0 ≤ sizeR rs0 := Nat.le_of_eq (map_size ex0)
  go_wp2_with fail
  (with_reducible refine (toL_R A1 c1 rs1 w6 (r1.toL (by omega) (by omega))).mono ?_)
  rintro e w7 ⟨Ax1, cx1, Rx1, rfl, ex1, ox1, hb7⟩
  have sz8 : w6.heap.size ≤ w7.heap.size := hb7.size
  have r0 := r0.below (hb7.mono (by omega))
  have r1 := r1.below (hb7.mono (by omega))
  have rx0 := rx0.below (hb7.mono (by omega))
  have ox0 := ox0.below hb7
  have HB := HB.trans (hb7.mono (by omega))
  have rx1 := ox1.read
  have zx1 : Rx1.length ≤ rs1.length := Nat.le_of_eq (map_len ex1)
  have yx1 : sizeR Rx1 ≤ sizeR rs1 := Nat.le_of_eq (map_size ex1)
  go_wp2_with fail
  have ct := within_impl Ax0 cx0 Rx0 Ax1 cx1 Rx1 w7 (rx0.toL (by omega) (by omega)) (rx1.toL (by omega) (by omega))
  try rw [ex0] at ct
  try rw [ex1] at ct
  (with_reducible refine ct.mono ?_)
  clear ct
  rintro e w8 ⟨rfl, hb8⟩
  have sz9 : w7.heap.size ≤ w8.heap.size := hb8.size
  have r0 := r0.below (hb8.mono (by omega))
  have r1 := r1.below (hb8.mono (by omega))
  have rx0 := rx0.below (hb8.mono (by omega))
  have rx1 := rx1.below (hb8.mono (by omega))
  have ox0 := ox0.below hb8
  have ox1 := ox1.below hb8
  have HB := HB.trans (hb8.mono (by omega))
  go_wp2_with fail
  (with_reducible refine (toL_R A0 c0 rs0 w8 (r0.toL (by omega) (by omega))).mono ?_)
  rintro e w9 ⟨Ay0, cy0, Ry0, rfl, ey0, oy0, hb9⟩
  have sz10 : w8.heap.size ≤ w9.heap.size := hb9.size
  have r0 := r0.below (hb9.mono (by omega))
  have r1 := r1.below (hb9.mono (by omega))
  have rx0 := rx0.below (hb9.mono (by omega))
  have rx1 := rx1.below (hb9.mono (by omega))
  have ox0 := ox0.below hb9
  have ox1 := ox1.below hb9
  have HB := HB.trans (hb9.mono (by omega))
  have ry0 := oy0.read
  have zy0 : Ry0.length ≤ rs0.length := Nat.le_of_eq (map_len ey0)
  have yy0 : sizeR Ry0 ≤ sizeR rs0 := Nat.le_of_eq (map_size ey0)
  go_wp2_with fail
  (with_reducible refine (eqL_R Ax0 Ay0 cx0 cy0 Rx0 Ry0 w9 (rx0.toL (by omega) (by omega)) (ry0.toL (by omega) (by omega)) (ex0.trans ey0.symm)).mono ?_)
  rintro e w10 ⟨rfl, hb10⟩
  have sz11 : w9.heap.size ≤ w10.heap.size := hb10.size
  have r0 := r0.below (hb10.mono (by omega))
  have r1 := r1.below (hb10.mono (by omega))
  have rx0 := rx0.below (hb10.mono (by omega))
  have rx1 := rx1.below (hb10.mono (by omega))
  have ry0 := ry0.below (hb10.mono (by omega))
  have ox0 := ox0.below hb10
  have ox1 := ox1.below hb10
  have oy0 := oy0.below hb10
  have HB := HB.trans (hb10.mono (by omega))
  clear oy0 ry0
  go_wp2_with fail
  (with_reducible refine (toL_R A1 c1 rs1 w10 (r1.toL (by omega) (by omega))).mono ?_)
  rintro e w11 ⟨Ay1, cy1, Ry1, rfl, ey1, oy1, hb11⟩
  have sz12 : w10.heap.size ≤ w11.heap.size := hb11.size
  have r0 := r0.below (hb11.mono (by omega))
  have r1 := r1.below (hb11.mono (by omega))
  have rx0 := rx0.below (hb11.mono (by omega))
  have rx1 := rx1.below (hb11.mono (by omega))
  have ox0 := ox0.below hb11
  have ox1 := ox1.below hb11
  have HB := HB.trans (hb11.mono (by omega))
  have ry1 := oy1.read
  have zy1 : Ry1.length ≤ rs1.length := Nat.le_of_eq (map_len ey1)
  have yy1 : sizeR Ry1 ≤ sizeR rs1 := Nat.le_of_eq (map_size ey1)
  go_wp2_with fail
  (with_reducible refine (eqL_R Ax1 Ay1 cx1 cy1 Rx1 Ry1 w11 (rx1.toL (by omega) (by omega)) (ry1.toL (by omega) (by omega)) (ex1.trans ey1.symm)).mono ?_)
  rintro e w12 ⟨rfl, hb12⟩
  have sz13 : w11.heap.size ≤ w12.heap.size := hb12.size
  have r0 := r0.below (hb12.mono (by omega))
  have r1 := r1.below (hb12.mono (by omega))
  have rx0 := rx0.below (hb12.mono (by omega))
  have rx1 := rx1.below (hb12.mono (by omega))
  have ry1 := ry1.below (hb12.mono (by omega))
  have ox0 := ox0.below hb12
  have ox1 := ox1.below hb12
  have oy1 := oy1.below hb12
  have HB := HB.trans (hb12.mono (by omega))
  clear oy1 ry1
  go_wp2_with fail
  go_ret
  exact ⟨rfl, HB⟩
end Go.Proofs.Ytmkaelefljjamaa
