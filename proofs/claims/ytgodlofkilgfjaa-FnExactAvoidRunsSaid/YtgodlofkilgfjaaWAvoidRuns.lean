/- The walk of FnExactAvoidRuns: every call by its contract. -/
import Derived.Test.YtgodlofkilgfjaaR5
import Derived.Test.YtgodlofkilgfjaaR2
import Derived.Deep.RegionHeld3
namespace Go.Proofs.Ytgodlofkilgfjaa
open Go Go.RowKit

set_option maxHeartbeats 2000000 in
set_option maxRecDepth 100000 in
theorem walk_FnExactAvoidRuns (w : World) (a0 : Int) (wb0 : -9223372036854775808 ≤ a0 ∧ a0 ≤ 9223372036854775807) (A1 : Option Addr) (c1 : Nat) (xs1 : List Int) (ar1 : Arg w [⟨A1, c1, xs1⟩] []) :
    Calls Try.prog 12 #[.int .i64 a0, .slice A1 xs1.length c1] w (Rb w (.bool true)) := by
  have hml1 : xs1.length ≤ 9223372036854775807 := ar1.lenI
  rcases Nat.lt_or_ge 1048576 xs1.length with hbig | hs1
  · go_enter Try.func12, Try.ntmps12
    go_wp2
    go_ret
    exact ⟨rfl, Below.refl _ _⟩
  go_enter Try.func12, Try.ntmps12
  have HB := Below.refl w.heap.size w
  have r1 := ar1.read
  go_wp2_with fail
  (with_reducible refine (toI_R A1 c1 xs1 w (r1.toI hs1 (by omega))).mono ?_)
  rintro e w1 ⟨Ap1, cp1, rfl, op1, hb1⟩
  have sz2 : w.heap.size ≤ w1.heap.size := hb1.size
  have r1 := r1.below (hb1.mono (by omega))
  have HB := HB.trans (hb1.mono (by omega))
  have rp1 := op1.read
  go_wp2_with fail
  have ct := avoidRuns_spec a0 wb0 Ap1 cp1 xs1 w1 (rp1.toI (by omega) (by omega))
  (with_reducible refine ct.mono ?_)
  clear ct
  rintro e w2 ⟨rfl, hb2⟩
  have sz3 : w1.heap.size ≤ w2.heap.size := hb2.size
  have r1 := r1.below (hb2.mono (by omega))
  have rp1 := rp1.below (hb2.mono (by omega))
  have op1 := op1.below hb2
  have HB := HB.trans (hb2.mono (by omega))
  clear op1 rp1
  go_wp2_with fail
  (with_reducible refine (toI_R A1 c1 xs1 w2 (r1.toI hs1 (by omega))).mono ?_)
  rintro e w3 ⟨Ax1, cx1, rfl, ox1, hb3⟩
  have sz4 : w2.heap.size ≤ w3.heap.size := hb3.size
  have r1 := r1.below (hb3.mono (by omega))
  have HB := HB.trans (hb3.mono (by omega))
  have rx1 := ox1.read
  go_wp2_with fail
  have ct := avoidRuns_impl a0 wb0 Ax1 cx1 xs1 w3 (rx1.toI (by omega) (by omega))
  (with_reducible refine ct.mono ?_)
  clear ct
  rintro e w4 ⟨rfl, hb4⟩
  have sz5 : w3.heap.size ≤ w4.heap.size := hb4.size
  have r1 := r1.below (hb4.mono (by omega))
  have rx1 := rx1.below (hb4.mono (by omega))
  have ox1 := ox1.below hb4
  have HB := HB.trans (hb4.mono (by omega))
  go_wp2_with fail
  (with_reducible refine (toI_R A1 c1 xs1 w4 (r1.toI hs1 (by omega))).mono ?_)
  rintro e w5 ⟨Ay1, cy1, rfl, oy1, hb5⟩
  have sz6 : w4.heap.size ≤ w5.heap.size := hb5.size
  have r1 := r1.below (hb5.mono (by omega))
  have rx1 := rx1.below (hb5.mono (by omega))
  have ox1 := ox1.below hb5
  have HB := HB.trans (hb5.mono (by omega))
  have ry1 := oy1.read
  go_wp2_with fail
  (with_reducible refine (eqI_R Ax1 Ay1 cx1 cy1 xs1 w5 (rx1.toI (by omega) (by omega)) (ry1.toI (by omega) (by omega))).mono ?_)
  rintro e w6 ⟨rfl, hb6⟩
  have sz7 : w5.heap.size ≤ w6.heap.size := hb6.size
  have r1 := r1.below (hb6.mono (by omega))
  have rx1 := rx1.below (hb6.mono (by omega))
  have ry1 := ry1.below (hb6.mono (by omega))
  have ox1 := ox1.below hb6
  have oy1 := oy1.below hb6
  have HB := HB.trans (hb6.mono (by omega))
  clear oy1 ry1
  go_wp2_with fail
  go_ret
  exact ⟨rfl, HB⟩
end Go.Proofs.Ytgodlofkilgfjaa
