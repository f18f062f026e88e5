/- The walk of FnExactIsLoose: every call by its contract. -/
import Derived.Test.YtgodlofkilgfjaaQ2
namespace Go.Proofs.Ytgodlofkilgfjaa
open Go Go.RowKit

set_option maxHeartbeats 1000000 in
set_option maxRecDepth 100000 in
theorem walk_FnExactIsLoose (w : World) (A0 : Option Addr) (xs0 : List Int) (c0 : Nat) (_hl0 : xs0.length ≤ c0) (hm0 : c0 ≤ maxLen) (r0 : Rd (Value.int .i64) w w.heap.size A0 xs0) (_hwf0 : ∀ n ∈ xs0, (Lit.int .i64 n).wf = true) :
    Calls Try.prog 7 #[.slice A0 xs0.length c0] w (Rb w (.bool true)) := by
  have hml0 : xs0.length ≤ 9223372036854775807 := by unfold maxLen at hm0; omega
  rcases Nat.lt_or_ge 1048576 xs0.length with hbig | hs0
  · go_enter Try.func7, Try.ntmps7
    go_wp2
    go_ret
    exact ⟨rfl, Below.refl _ _⟩
  clear hm0 hml0
  go_enter Try.func7, Try.ntmps7
  go_wp2_with fail
  refine (toIntS_any A0 c0 xs0 _ hs0 (r0.more (by omega))).mono ?_
  rintro e w1 ⟨Ts0, ts0, rfl, ks0, _, os0, hb1⟩
  have sz2 : w.heap.size ≤ w1.heap.size := hb1.size
  have r0 := r0.below (hb1.mono (by omega))
  have HB := hb1
  have lqs0 := fun g hg => (os0.lt g hg).2
  have rs0 := Rd.of_own os0
  go_wp2_with fail
  refine (loose_spec Ts0 ts0 xs0 _ ⟨hs0, ks0, rs0.more (by omega)⟩).mono ?_
  rintro e w2 ⟨rfl, hb2⟩
  have sz3 : w1.heap.size ≤ w2.heap.size := hb2.size
  have r0 := r0.below (hb2.mono (by omega))
  have rs0 := rs0.below (hb2.mono (by omega))
  have os0 := own_below os0 hb2
  have HB := HB.trans (hb2.mono (by omega))
  clear os0 rs0
  go_wp2_with fail
  refine (toIntS_any A0 c0 xs0 _ hs0 (r0.more (by omega))).mono ?_
  rintro e w3 ⟨Tx0, tx0, rfl, kx0, _, ox0, hb3⟩
  have sz4 : w2.heap.size ≤ w3.heap.size := hb3.size
  have r0 := r0.below (hb3.mono (by omega))
  have HB := HB.trans (hb3.mono (by omega))
  have lqx0 := fun g hg => (ox0.lt g hg).2
  have rx0 := Rd.of_own ox0
  go_wp2_with fail
  refine (loose_impl Tx0 tx0 xs0 _ ⟨hs0, kx0, rx0.more (by omega)⟩).mono ?_
  rintro e w4 ⟨rfl, hb4⟩
  have sz5 : w3.heap.size ≤ w4.heap.size := hb4.size
  have r0 := r0.below (hb4.mono (by omega))
  have rx0 := rx0.below (hb4.mono (by omega))
  have ox0 := own_below ox0 hb4
  have HB := HB.trans (hb4.mono (by omega))
  go_wp2_with fail
  refine (toIntS_any A0 c0 xs0 _ hs0 (r0.more (by omega))).mono ?_
  rintro e w5 ⟨Ty0, ty0, rfl, ky0, _, oy0, hb5⟩
  have sz6 : w4.heap.size ≤ w5.heap.size := hb5.size
  have r0 := r0.below (hb5.mono (by omega))
  have rx0 := rx0.below (hb5.mono (by omega))
  have ox0 := own_below ox0 hb5
  have HB := HB.trans (hb5.mono (by omega))
  have lqy0 := fun g hg => (oy0.lt g hg).2
  have ry0 := Rd.of_own oy0
  go_wp2_with fail
  refine (eqIntS_same Tx0 Ty0 tx0 ty0 xs0 _ (by omega) (rx0.more (by omega)) (ry0.more (by omega))).mono ?_
  rintro e w6 ⟨rfl, hb6⟩
  have sz7 : w5.heap.size ≤ w6.heap.size := hb6.size
  have r0 := r0.below (hb6.mono (by omega))
  have rx0 := rx0.below (hb6.mono (by omega))
  have ry0 := ry0.below (hb6.mono (by omega))
  have ox0 := own_below ox0 hb6
  have oy0 := own_below oy0 hb6
  have HB := HB.trans (hb6.mono (by omega))
  clear oy0 ry0
  go_wp2_with fail
  go_ret
  exact ⟨rfl, HB⟩
end Go.Proofs.Ytgodlofkilgfjaa
