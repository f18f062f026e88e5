/- The walk of FnExactBasisText: every call by its contract. -/
import Derived.Test.YtmkaelefljjamaaT3
import Derived.Test.YtmkaelefljjamaaR2
import Derived.Deep.RegionHeld3
namespace Go.Proofs.Ytmkaelefljjamaa
set_option maxRecDepth 100000
open Go Go.RowKit

set_option maxHeartbeats 2000000 in
set_option maxRecDepth 100000 in
theorem walk_FnExactBasisText (w : World) (A0 : Option Addr) (c0 : Nat) (rs0 : List Row) (ar0 : Arg w rs0 [⟨A0, c0, rs0.map Row.v⟩]) :
    Calls Try.prog 11 #[.slice A0 rs0.length c0] w (Rb w (.bool true)) := by
  have _hq0 := Nat.zero_le (rs0.length + sizeR rs0)
  rcases Nat.lt_or_ge 1048576 ((rs0.length + sizeR rs0)) with hbig | hz0
  · go_enter Try.func11, Try.ntmps11
    have HB := Below.refl w.heap.size w
    go_wp2_with fail
    (with_reducible refine (szL_no A0 c0 rs0 (1048576) w (ar0.self) (by omega) (by omega)).mono ?_)
    rintro e v0 ⟨rfl, hb0⟩
    have HB := HB.trans (hb0.mono HB.size)
    go_wp2
    go_ret
    exact ⟨rfl, HB⟩
  go_enter Try.func11, Try.ntmps11
  have HB := Below.refl w.heap.size w
  have r0 := ar0.read
  go_wp2_with fail
  (with_reducible refine (szL_ok A0 c0 rs0 (1048576) w (ar0.self) (by omega) (by omega)).mono ?_)
  rintro e w1 ⟨rfl, hb1⟩
  have sz2 : w.heap.size ≤ w1.heap.size := hb1.size
  have r0 := r0.below (hb1.mono (by omega))
  have HB := HB.trans (hb1.mono (by omega))
  go_wp2_with fail
  (with_reducible refine (toL_R A0 c0 rs0 w1 (r0.toL (by omega) (by omega))).mono ?_)
  rintro e w2 ⟨Ap0, cp0, Rp0, rfl, ep0, op0, hb2⟩
  have sz3 : w1.heap.size ≤ w2.heap.size := hb2.size
  have r0 := r0.below (hb2.mono (by omega))
  have HB := HB.trans (hb2.mono (by omega))
  have rp0 := op0.read
  have zp0 : Rp0.length ≤ rs0.length := Nat.le_of_eq (map_len ep0)
  have yp0 : sizeR Rp0 ≤ sizeR rs0 := Nat.le_of_eq (map_size ep0)
  go_wp2_with fail
  have ct := basisText_spec Ap0 cp0 Rp0 w2 (rp0.toL (by omega) (by omega))
  try rw [ep0] at ct
  (with_reducible refine ct.mono ?_)
  clear ct
  rintro e w3 ⟨rfl, hb3⟩
  have sz4 : w2.heap.size ≤ w3.heap.size := hb3.size
  have r0 := r0.below (hb3.mono (by omega))
  have rp0 := rp0.below (hb3.mono (by omega))
  have op0 := op0.below hb3
  have HB := HB.trans (hb3.mono (by omega))
  clear op0 rp0
  go_wp2_with fail
  (with_reducible refine (toL_R A0 c0 rs0 w3 (r0.toL (by omega) (by omega))).mono ?_)
  rintro e w4 ⟨Ax0, cx0, Rx0, rfl, ex0, ox0, hb4⟩
  have sz5 : w3.heap.size ≤ w4.heap.size := hb4.size
  have r0 := r0.below (hb4.mono (by omega))
  have HB := HB.trans (hb4.mono (by omega))
  have rx0 := ox0.read
  have zx0 : Rx0.length ≤ rs0.length := Nat.le_of_eq (map_len ex0)
  have yx0 : sizeR Rx0 ≤ sizeR rs0 := Nat.le_of_eq (map_size ex0)
  go_wp2_with fail
  have ct := basisText_impl Ax0 cx0 Rx0 w4 (rx0.toL (by omega) (by omega))
  try rw [ex0] at ct
  (with_reducible refine ct.mono ?_)
  clear ct
  rintro e w5 ⟨rfl, hb5⟩
  have sz6 : w4.heap.size ≤ w5.heap.size := hb5.size
  have r0 := r0.below (hb5.mono (by omega))
  have rx0 := rx0.below (hb5.mono (by omega))
  have ox0 := ox0.below hb5
  have HB := HB.trans (hb5.mono (by omega))
  go_wp2_with fail
  (with_reducible refine (toL_R A0 c0 rs0 w5 (r0.toL (by omega) (by omega))).mono ?_)
  rintro e w6 ⟨Ay0, cy0, Ry0, rfl, ey0, oy0, hb6⟩
  have sz7 : w5.heap.size ≤ w6.heap.size := hb6.size
  have r0 := r0.below (hb6.mono (by omega))
  have rx0 := rx0.below (hb6.mono (by omega))
  have ox0 := ox0.below hb6
  have HB := HB.trans (hb6.mono (by omega))
  have ry0 := oy0.read
  have zy0 : Ry0.length ≤ rs0.length := Nat.le_of_eq (map_len ey0)
  have yy0 : sizeR Ry0 ≤ sizeR rs0 := Nat.le_of_eq (map_size ey0)
  go_wp2_with fail
  (with_reducible refine (eqL_R Ax0 Ay0 cx0 cy0 Rx0 Ry0 w6 (rx0.toL (by omega) (by omega)) (ry0.toL (by omega) (by omega)) (ex0.trans ey0.symm)).mono ?_)
  rintro e w7 ⟨rfl, hb7⟩
  have sz8 : w6.heap.size ≤ w7.heap.size := hb7.size
  have r0 := r0.below (hb7.mono (by omega))
  have rx0 := rx0.below (hb7.mono (by omega))
  have ry0 := ry0.below (hb7.mono (by omega))
  have ox0 := ox0.below hb7
  have oy0 := oy0.below hb7
  have HB := HB.trans (hb7.mono (by omega))
  clear oy0 ry0
  go_wp2_with fail
  go_ret
  exact ⟨rfl, HB⟩
end Go.Proofs.Ytmkaelefljjamaa
