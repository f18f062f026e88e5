/- The walk of FnExactCountRuns: every call by its contract. -/
import Derived.Test.YtgodlofkilgfjaaQ2
namespace Go.Proofs.Ytgodlofkilgfjaa
open Go Go.RowKit

set_option maxHeartbeats 1000000 in
set_option maxRecDepth 100000 in
theorem walk_FnExactCountRuns (w : World) (A0 : Option Addr) (xs0 : List Int) (c0 : Nat) (_hl0 : xs0.length ≤ c0) (hm0 : c0 ≤ maxLen) (r0 : Rd (Value.int .i64) w w.heap.size A0 xs0) (_hwf0 : ∀ n ∈ xs0, (Lit.int .i64 n).wf = true) (A1 : Option Addr) (xs1 : List Int) (c1 : Nat) (_hl1 : xs1.length ≤ c1) (hm1 : c1 ≤ maxLen) (r1 : Rd (Value.int .i64) w w.heap.size A1 xs1) (_hwf1 : ∀ n ∈ xs1, (Lit.int .i64 n).wf = true) :
    Calls Try.prog 6 #[.slice A0 xs0.length c0, .slice A1 xs1.length c1] w (Rb w (.bool true)) := by
  have hml0 : xs0.length ≤ 9223372036854775807 := by unfold maxLen at hm0; omega
  rcases Nat.lt_or_ge 1048576 xs0.length with hbig | hs0
  · go_enter Try.func6, Try.ntmps6
    go_wp2
    go_ret
    exact ⟨rfl, Below.refl _ _⟩
  clear hm0 hml0
  have hml1 : xs1.length ≤ 9223372036854775807 := by unfold maxLen at hm1; omega
  rcases Nat.lt_or_ge 1048576 xs1.length with hbig | hs1
  · go_enter Try.func6, Try.ntmps6
    go_wp2
    go_ret
    exact ⟨rfl, Below.refl _ _⟩
  clear hm1 hml1
  go_enter Try.func6, Try.ntmps6
  go_wp2_with fail
  refine (toIntS_any A0 c0 xs0 _ hs0 (r0.more (by omega))).mono ?_
  rintro e w1 ⟨Ts0, ts0, rfl, ks0, _, os0, hb1⟩
  have sz2 : w.heap.size ≤ w1.heap.size := hb1.size
  have r0 := r0.below (hb1.mono (by omega))
  have r1 := r1.below (hb1.mono (by omega))
  have HB := hb1
  have lqs0 := fun g hg => (os0.lt g hg).2
  have rs0 := Rd.of_own os0
  go_wp2_with fail
  refine (toIntS_any A1 c1 xs1 _ hs1 (r1.more (by omega))).mono ?_
  rintro e w2 ⟨Ts1, ts1, rfl, ks1, _, os1, hb2⟩
  have sz3 : w1.heap.size ≤ w2.heap.size := hb2.size
  have r0 := r0.below (hb2.mono (by omega))
  have r1 := r1.below (hb2.mono (by omega))
  have rs0 := rs0.below (hb2.mono (by omega))
  have os0 := own_below os0 hb2
  have HB := HB.trans (hb2.mono (by omega))
  have lqs1 := fun g hg => (os1.lt g hg).2
  have rs1 := Rd.of_own os1
  go_wp2_with fail
  refine (runs_spec Ts0 ts0 xs0 Ts1 ts1 xs1 _ ⟨hs0, ks0, rs0.more (by omega)⟩ ⟨hs1, ks1, rs1.more (by omega)⟩).mono ?_
  rintro e w3 ⟨rfl, hb3⟩
  have sz4 : w2.heap.size ≤ w3.heap.size := hb3.size
  have r0 := r0.below (hb3.mono (by omega))
  have r1 := r1.below (hb3.mono (by omega))
  have rs0 := rs0.below (hb3.mono (by omega))
  have rs1 := rs1.below (hb3.mono (by omega))
  have os0 := own_below os0 hb3
  have os1 := own_below os1 hb3
  have HB := HB.trans (hb3.mono (by omega))
  clear os0 rs0
  clear os1 rs1
  go_wp2_with fail
  refine (toIntS_any A0 c0 xs0 _ hs0 (r0.more (by omega))).mono ?_
  rintro e w4 ⟨Tx0, tx0, rfl, kx0, _, ox0, hb4⟩
  have sz5 : w3.heap.size ≤ w4.heap.size := hb4.size
  have r0 := r0.below (hb4.mono (by omega))
  have r1 := r1.below (hb4.mono (by omega))
  have HB := HB.trans (hb4.mono (by omega))
  have lqx0 := fun g hg => (ox0.lt g hg).2
  have rx0 := Rd.of_own ox0
  go_wp2_with fail
  refine (toIntS_any A1 c1 xs1 _ hs1 (r1.more (by omega))).mono ?_
  rintro e w5 ⟨Tx1, tx1, rfl, kx1, _, ox1, hb5⟩
  have sz6 : w4.heap.size ≤ w5.heap.size := hb5.size
  have r0 := r0.below (hb5.mono (by omega))
  have r1 := r1.below (hb5.mono (by omega))
  have rx0 := rx0.below (hb5.mono (by omega))
  have ox0 := own_below ox0 hb5
  have HB := HB.trans (hb5.mono (by omega))
  have lqx1 := fun g hg => (ox1.lt g hg).2
  have rx1 := Rd.of_own ox1
  go_wp2_with fail
  refine (runs_impl Tx0 tx0 xs0 Tx1 tx1 xs1 _ ⟨hs0, kx0, rx0.more (by omega)⟩ ⟨hs1, kx1, rx1.more (by omega)⟩).mono ?_
  rintro e w6 ⟨rfl, hb6⟩
  have sz7 : w5.heap.size ≤ w6.heap.size := hb6.size
  have r0 := r0.below (hb6.mono (by omega))
  have r1 := r1.below (hb6.mono (by omega))
  have rx0 := rx0.below (hb6.mono (by omega))
  have rx1 := rx1.below (hb6.mono (by omega))
  have ox0 := own_below ox0 hb6
  have ox1 := own_below ox1 hb6
  have HB := HB.trans (hb6.mono (by omega))
  go_wp2_with fail
  refine (toIntS_any A0 c0 xs0 _ hs0 (r0.more (by omega))).mono ?_
  rintro e w7 ⟨Ty0, ty0, rfl, ky0, _, oy0, hb7⟩
  have sz8 : w6.heap.size ≤ w7.heap.size := hb7.size
  have r0 := r0.below (hb7.mono (by omega))
  have r1 := r1.below (hb7.mono (by omega))
  have rx0 := rx0.below (hb7.mono (by omega))
  have rx1 := rx1.below (hb7.mono (by omega))
  have ox0 := own_below ox0 hb7
  have ox1 := own_below ox1 hb7
  have HB := HB.trans (hb7.mono (by omega))
  have lqy0 := fun g hg => (oy0.lt g hg).2
  have ry0 := Rd.of_own oy0
  go_wp2_with fail
  refine (eqIntS_same Tx0 Ty0 tx0 ty0 xs0 _ (by omega) (rx0.more (by omega)) (ry0.more (by omega))).mono ?_
  rintro e w8 ⟨rfl, hb8⟩
  have sz9 : w7.heap.size ≤ w8.heap.size := hb8.size
  have r0 := r0.below (hb8.mono (by omega))
  have r1 := r1.below (hb8.mono (by omega))
  have rx0 := rx0.below (hb8.mono (by omega))
  have rx1 := rx1.below (hb8.mono (by omega))
  have ry0 := ry0.below (hb8.mono (by omega))
  have ox0 := own_below ox0 hb8
  have ox1 := own_below ox1 hb8
  have oy0 := own_below oy0 hb8
  have HB := HB.trans (hb8.mono (by omega))
  clear oy0 ry0
  go_wp2_with fail
  refine (toIntS_any A1 c1 xs1 _ hs1 (r1.more (by omega))).mono ?_
  rintro e w9 ⟨Ty1, ty1, rfl, ky1, _, oy1, hb9⟩
  have sz10 : w8.heap.size ≤ w9.heap.size := hb9.size
  have r0 := r0.below (hb9.mono (by omega))
  have r1 := r1.below (hb9.mono (by omega))
  have rx0 := rx0.below (hb9.mono (by omega))
  have rx1 := rx1.below (hb9.mono (by omega))
  have ox0 := own_below ox0 hb9
  have ox1 := own_below ox1 hb9
  have HB := HB.trans (hb9.mono (by omega))
  have lqy1 := fun g hg => (oy1.lt g hg).2
  have ry1 := Rd.of_own oy1
  go_wp2_with fail
  refine (eqIntS_same Tx1 Ty1 tx1 ty1 xs1 _ (by omega) (rx1.more (by omega)) (ry1.more (by omega))).mono ?_
  rintro e w10 ⟨rfl, hb10⟩
  have sz11 : w9.heap.size ≤ w10.heap.size := hb10.size
  have r0 := r0.below (hb10.mono (by omega))
  have r1 := r1.below (hb10.mono (by omega))
  have rx0 := rx0.below (hb10.mono (by omega))
  have rx1 := rx1.below (hb10.mono (by omega))
  have ry1 := ry1.below (hb10.mono (by omega))
  have ox0 := own_below ox0 hb10
  have ox1 := own_below ox1 hb10
  have oy1 := own_below oy1 hb10
  have HB := HB.trans (hb10.mono (by omega))
  clear oy1 ry1
  go_wp2_with fail
  go_ret
  exact ⟨rfl, HB⟩
end Go.Proofs.Ytgodlofkilgfjaa
