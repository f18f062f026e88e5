/- The walk of FnExactParentOf: every call by its contract. -/
import Derived.Test.YtgodlofkilgfjaaQ3
namespace Go.Proofs.Ytgodlofkilgfjaa
open Go Go.RowKit

set_option maxHeartbeats 1000000 in
set_option maxRecDepth 100000 in
theorem walk_FnExactParentOf (w : World) (A0 : Option Addr) (xs0 : List Int) (c0 : Nat) (_hl0 : xs0.length ≤ c0) (hm0 : c0 ≤ maxLen) (r0 : Rd (Value.int .i64) w w.heap.size A0 xs0) (_hwf0 : ∀ n ∈ xs0, (Lit.int .i64 n).wf = true) :
    Calls Try.prog 8 #[.slice A0 xs0.length c0] w (Rb w (.bool true)) := by
  have hml0 : xs0.length ≤ 9223372036854775807 := by unfold maxLen at hm0; omega
  rcases Nat.lt_or_ge 1048576 xs0.length with hbig | hs0
  · go_enter Try.func8, Try.ntmps8
    go_wp2
    go_ret
    exact ⟨rfl, Below.refl _ _⟩
  clear hm0 hml0
  go_enter Try.func8, Try.ntmps8
  go_wp2_with fail
  refine (toIntS_any A0 c0 xs0 _ hs0 (r0.more (by omega))).mono ?_
  rintro e w1 ⟨Ts0, ts0, rfl, ks0, _, os0, hb1⟩
  have sz2 : w.heap.size ≤ w1.heap.size := hb1.size
  have r0 := r0.below (hb1.mono (by omega))
  have HB := hb1
  have lqs0 := fun g hg => (os0.lt g hg).2
  have rs0 := Rd.of_own os0
  go_wp2_with fail
  refine (parent_spec Ts0 ts0 xs0 _ ⟨hs0, ks0, rs0.more (by omega)⟩).mono ?_
  rintro e w2 ⟨TW, tW, rfl, _, _, oW, hb2⟩
  have sz3 : w1.heap.size ≤ w2.heap.size := hb2.size
  have r0 := r0.below (hb2.mono (by omega))
  have rs0 := rs0.below (hb2.mono (by omega))
  have os0 := own_below os0 hb2
  have HB := HB.trans (hb2.mono (by omega))
  have rW := Rd.of_own oW
  clear os0 rs0
  go_wp2_with fail
  refine (toIntS_any A0 c0 xs0 _ hs0 (r0.more (by omega))).mono ?_
  rintro e w3 ⟨Tx0, tx0, rfl, kx0, _, ox0, hb3⟩
  have sz4 : w2.heap.size ≤ w3.heap.size := hb3.size
  have r0 := r0.below (hb3.mono (by omega))
  have rW := rW.below (hb3.mono (by omega))
  have oW := own_below oW hb3
  have HB := HB.trans (hb3.mono (by omega))
  have lqx0 := fun g hg => (ox0.lt g hg).2
  have rx0 := Rd.of_own ox0
  go_wp2_with fail
  refine (parent_impl Tx0 tx0 xs0 _ ⟨hs0, kx0, rx0.more (by omega)⟩).mono ?_
  rintro e w4 ⟨Tg, tg, rfl, _, _, og, hb4⟩
  have sz5 : w3.heap.size ≤ w4.heap.size := hb4.size
  have r0 := r0.below (hb4.mono (by omega))
  have rW := rW.below (hb4.mono (by omega))
  have rx0 := rx0.below (hb4.mono (by omega))
  have oW := own_below oW hb4
  have ox0 := own_below ox0 hb4
  have HB := HB.trans (hb4.mono (by omega))
  have rg := Rd.of_own og
  have hGl : (parentG xs0).length ≤ 1048576 := (by have := parentG_length xs0; omega)
  go_wp2_with fail
  refine (eqIntS_same Tg TW tg tW (parentG xs0) _ (by omega) (rg.more (by omega)) (rW.more (by omega))).mono ?_
  rintro e w5 ⟨rfl, hb5⟩
  have sz6 : w4.heap.size ≤ w5.heap.size := hb5.size
  have r0 := r0.below (hb5.mono (by omega))
  have rW := rW.below (hb5.mono (by omega))
  have rx0 := rx0.below (hb5.mono (by omega))
  have rg := rg.below (hb5.mono (by omega))
  have oW := own_below oW hb5
  have ox0 := own_below ox0 hb5
  have og := own_below og hb5
  have HB := HB.trans (hb5.mono (by omega))
  go_wp2_with fail
  refine (toIntS_any A0 c0 xs0 _ hs0 (r0.more (by omega))).mono ?_
  rintro e w6 ⟨Ty0, ty0, rfl, ky0, _, oy0, hb6⟩
  have sz7 : w5.heap.size ≤ w6.heap.size := hb6.size
  have r0 := r0.below (hb6.mono (by omega))
  have rW := rW.below (hb6.mono (by omega))
  have rx0 := rx0.below (hb6.mono (by omega))
  have rg := rg.below (hb6.mono (by omega))
  have oW := own_below oW hb6
  have ox0 := own_below ox0 hb6
  have og := own_below og hb6
  have HB := HB.trans (hb6.mono (by omega))
  have lqy0 := fun g hg => (oy0.lt g hg).2
  have ry0 := Rd.of_own oy0
  go_wp2_with fail
  refine (eqIntS_same Tx0 Ty0 tx0 ty0 xs0 _ (by omega) (rx0.more (by omega)) (ry0.more (by omega))).mono ?_
  rintro e w7 ⟨rfl, hb7⟩
  have sz8 : w6.heap.size ≤ w7.heap.size := hb7.size
  have r0 := r0.below (hb7.mono (by omega))
  have rW := rW.below (hb7.mono (by omega))
  have rx0 := rx0.below (hb7.mono (by omega))
  have rg := rg.below (hb7.mono (by omega))
  have ry0 := ry0.below (hb7.mono (by omega))
  have oW := own_below oW hb7
  have ox0 := own_below ox0 hb7
  have og := own_below og hb7
  have oy0 := own_below oy0 hb7
  have HB := HB.trans (hb7.mono (by omega))
  clear oy0 ry0
  go_wp2_with fail
  have lt8 := fun g hg => (ox0.lt g hg)
  refine (markIntS_any Tx0 tx0 _ xs0 1 _ (by omega) (by omega) ox0).mono ?_
  rintro e w8 ⟨rfl, om, hg8⟩
  have sz9 : w7.heap.size ≤ w8.heap.size := hg8.size
  have r0 := r0.grown hg8 (by omega) (fun g hg => by have := (lt8 g hg).1; omega)
  have rW := rW.grown hg8 (by omega) (fun g hg => by have := (lt8 g hg).1; omega)
  clear oW
  clear ox0 rx0
  have og := og.kept hg8 (own_apart og (fun g hg => by have := lqx0 g hg; omega))
  have rg := Rd.of_own og
  have ox0 := om
  have rx0 := Rd.of_own (xs := marks 1 (xs0).length) (by rw [marks_length]; exact om)
  clear om
  have HB := HB.grown hg8 (by omega) (fun g hg => by have := (lt8 g hg).1; omega)
  go_wp2_with fail
  refine (eqIntS_same Tg TW tg tW (parentG xs0) _ (by omega) (rg.more (by omega)) (rW.more (by omega))).mono ?_
  rintro e w9 ⟨rfl, hb9⟩
  have sz10 : w8.heap.size ≤ w9.heap.size := hb9.size
  have r0 := r0.below (hb9.mono (by omega))
  have rW := rW.below (hb9.mono (by omega))
  have rx0 := rx0.below (hb9.mono (by omega))
  have rg := rg.below (hb9.mono (by omega))
  have ox0 := own_below ox0 hb9
  have og := own_below og hb9
  have HB := HB.trans (hb9.mono (by omega))
  clear ox0 rx0
  go_wp2_with fail
  have lt10 := fun g hg => (og.lt g hg)
  refine (markIntS_any Tg tg _ (parentG xs0) 1 _ (by omega) (by omega) og).mono ?_
  rintro e w10 ⟨rfl, om, hg10⟩
  have sz11 : w9.heap.size ≤ w10.heap.size := hg10.size
  have r0 := r0.grown hg10 (by omega) (fun g hg => by have := (lt10 g hg).1; omega)
  have rW := rW.grown hg10 (by omega) (fun g hg => by have := (lt10 g hg).1; omega)
  clear og rg
  have og := om
  have rg := Rd.of_own (xs := marks 1 ((parentG xs0)).length) (by rw [marks_length]; exact om)
  clear om
  have HB := HB.grown hg10 (by omega) (fun g hg => by have := (lt10 g hg).1; omega)
  go_wp2_with fail
  refine (heldIntS_marks Tg tg 1 ((parentG xs0)).length _ (by omega) (rg.more (by omega))).mono ?_
  rintro e _ ⟨rfl, rfl⟩
  go_wp2_with fail
  refine (toIntS_any A0 c0 xs0 _ hs0 (r0.more (by omega))).mono ?_
  rintro e w11 ⟨Tz0, tz0, rfl, kz0, _, oz0, hb11⟩
  have sz12 : w10.heap.size ≤ w11.heap.size := hb11.size
  have r0 := r0.below (hb11.mono (by omega))
  have rW := rW.below (hb11.mono (by omega))
  have rg := rg.below (hb11.mono (by omega))
  have og := own_below og hb11
  have HB := HB.trans (hb11.mono (by omega))
  have lqz0 := fun g hg => (oz0.lt g hg).2
  have rz0 := Rd.of_own oz0
  go_wp2_with fail
  refine (parent_impl Tz0 tz0 xs0 _ ⟨hs0, kz0, rz0.more (by omega)⟩).mono ?_
  rintro e w12 ⟨Th, th, rfl, _, _, oh, hb12⟩
  have sz13 : w11.heap.size ≤ w12.heap.size := hb12.size
  have r0 := r0.below (hb12.mono (by omega))
  have rW := rW.below (hb12.mono (by omega))
  have rg := rg.below (hb12.mono (by omega))
  have rz0 := rz0.below (hb12.mono (by omega))
  have og := own_below og hb12
  have oz0 := own_below oz0 hb12
  have HB := HB.trans (hb12.mono (by omega))
  have rh := Rd.of_own oh
  go_wp2_with fail
  refine (eqIntS_same Th TW th tW (parentG xs0) _ (by omega) (rh.more (by omega)) (rW.more (by omega))).mono ?_
  rintro e w13 ⟨rfl, hb13⟩
  have sz14 : w12.heap.size ≤ w13.heap.size := hb13.size
  have r0 := r0.below (hb13.mono (by omega))
  have rW := rW.below (hb13.mono (by omega))
  have rg := rg.below (hb13.mono (by omega))
  have rz0 := rz0.below (hb13.mono (by omega))
  have rh := rh.below (hb13.mono (by omega))
  have og := own_below og hb13
  have oz0 := own_below oz0 hb13
  have oh := own_below oh hb13
  have HB := HB.trans (hb13.mono (by omega))
  go_wp2_with fail
  refine (heldIntS_marks Tg tg 1 ((parentG xs0)).length _ (by omega) (rg.more (by omega))).mono ?_
  rintro e _ ⟨rfl, rfl⟩
  go_wp2_with fail
  go_ret
  exact ⟨rfl, HB⟩
end Go.Proofs.Ytgodlofkilgfjaa
