/- The walk of FnExactCountMesh: every call by its contract. -/
import Derived.Test.YtmkaelefljjamaaB2
import Derived.Test.YtmkaelefljjamaaR2
import Derived.Deep.RegionHeld3
namespace Go.Proofs.Ytmkaelefljjamaa
set_option maxRecDepth 100000
open Go Go.RowKit

set_option maxHeartbeats 2000000 in
set_option maxRecDepth 100000 in
theorem walk_FnExactCountMesh (w : World) (A0 : Option Addr) (c0 : Nat) (xs0 : List Int) (ar0 : Arg w [⟨A0, c0, xs0⟩] []) (A1 B1 : Option Addr) (c1 k1 : Nat) (xs1 : List Int) (rs1 : List Row) (ar1 : Arg w (⟨A1, c1, xs1⟩ :: rs1) [⟨B1, k1, rs1.map Row.v⟩]) :
    Calls Try.prog 12 #[.slice A0 xs0.length c0, .agg #[.slice A1 xs1.length c1, .slice B1 rs1.length k1]] w (Rb w (.bool true)) := by
  have hml0 : xs0.length ≤ 9223372036854775807 := ar0.lenI
  rcases Nat.lt_or_ge 1048576 xs0.length with hbig | hs0
  · go_enter Try.func12, Try.ntmps12
    go_wp2
    go_ret
    exact ⟨rfl, by first | exact Below.refl _ _ | exact (Below.refl _ _).alloc (Nat.le_refl _) _⟩
  have _hq1 := Nat.zero_le (xs1.length + (rs1.length + sizeR rs1))
  rcases Nat.lt_or_ge 1048576 ((xs1.length + (rs1.length + sizeR rs1))) with hbig | hz0
  · go_enter Try.func12, Try.ntmps12
    go_wp2_with fail
    have HB : Below w.heap.size w (w.alloc (Obj.cells #[Value.slice A1 xs1.length c1, Value.slice B1 rs1.length k1] 48)) := (Below.refl _ _).alloc (Nat.le_refl _) _
    have ob1 := obj_new w (Obj.cells #[Value.slice A1 xs1.length c1, Value.slice B1 rs1.length k1] 48)
    have szb : (w.alloc (Obj.cells #[Value.slice A1 xs1.length c1, Value.slice B1 rs1.length k1] 48)).heap.size = w.heap.size + 1 := by simp
    generalize (w.alloc (Obj.cells #[Value.slice A1 xs1.length c1, Value.slice B1 rs1.length k1] 48)) = wb at HB ob1 szb ⊢
    have f10 : (wb).cell? ⟨w.heap.size, 0, none⟩ = some (Value.slice A1 xs1.length c1) := (obj_cell ob1).trans rfl
    have f11 : (wb).cell? ⟨w.heap.size, 1, none⟩ = some (Value.slice B1 rs1.length k1) := (obj_cell ob1).trans rfl
    (with_reducible refine (szM_no A1 B1 c1 k1 xs1 rs1 (1048576) wb (ar1.below HB) (by omega) (by omega)).mono ?_)
    rintro e v0 ⟨rfl, hb0⟩
    have HB := HB.trans (hb0.mono HB.size)
    have ob1 := obj_below ob1 hb0 (obj_lt ob1)
    have f10 : (v0).cell? ⟨w.heap.size, 0, none⟩ = some (Value.slice A1 xs1.length c1) := (obj_cell ob1).trans rfl
    have f11 : (v0).cell? ⟨w.heap.size, 1, none⟩ = some (Value.slice B1 rs1.length k1) := (obj_cell ob1).trans rfl
    go_wp2
    go_ret
    exact ⟨rfl, HB⟩
  go_enter Try.func12, Try.ntmps12
  have r0 := ar0.read
  have r1 := ar1.read
  go_wp2_with fail
  have HB : Below w.heap.size w (w.alloc (Obj.cells #[Value.slice A1 xs1.length c1, Value.slice B1 rs1.length k1] 48)) := (Below.refl _ _).alloc (Nat.le_refl _) _
  have ob1 := obj_new w (Obj.cells #[Value.slice A1 xs1.length c1, Value.slice B1 rs1.length k1] 48)
  have szb : (w.alloc (Obj.cells #[Value.slice A1 xs1.length c1, Value.slice B1 rs1.length k1] 48)).heap.size = w.heap.size + 1 := by simp
  generalize (w.alloc (Obj.cells #[Value.slice A1 xs1.length c1, Value.slice B1 rs1.length k1] 48)) = wb at HB ob1 szb ⊢
  have f10 : (wb).cell? ⟨w.heap.size, 0, none⟩ = some (Value.slice A1 xs1.length c1) := (obj_cell ob1).trans rfl
  have f11 : (wb).cell? ⟨w.heap.size, 1, none⟩ = some (Value.slice B1 rs1.length k1) := (obj_cell ob1).trans rfl
  have sz1 : w.heap.size ≤ wb.heap.size := by omega
  have r0 := r0.below HB
  have r1 := r1.below HB
  (with_reducible refine (szM_ok A1 B1 c1 k1 xs1 rs1 (1048576) wb (ar1.below HB) (by omega) (by omega)).mono ?_)
  rintro e w1 ⟨rfl, hb1⟩
  have ob1 := obj_below ob1 hb1 (obj_lt ob1)
  have f10 : (w1).cell? ⟨w.heap.size, 0, none⟩ = some (Value.slice A1 xs1.length c1) := (obj_cell ob1).trans rfl
  have f11 : (w1).cell? ⟨w.heap.size, 1, none⟩ = some (Value.slice B1 rs1.length k1) := (obj_cell ob1).trans rfl
  have sz3 : wb.heap.size ≤ w1.heap.size := hb1.size
  have r0 := r0.below (hb1.mono (by omega))
  have r1 := r1.below (hb1.mono (by omega))
  have HB := HB.trans (hb1.mono (by omega))
  go_wp2_with fail
  have szd : w1.drew.heap.size = w1.heap.size := rfl
  have olt := obj_lt ob1
  have rd0 : Read w1.drew w1.heap.size [⟨A0, c0, xs0⟩] [] := (r0.dr (Dr.refl _).drew).more (by omega)
  have rd1 : Read w1.drew w1.heap.size (⟨A1, c1, xs1⟩ :: rs1) [⟨B1, k1, rs1.map Row.v⟩] := (r1.dr (Dr.refl _).drew).more (by omega)
  have g0_0 : w1.drew.cell? ⟨w.heap.size, 0, none⟩ = some (Value.slice A1 xs1.length c1) := f10
  have g0_1 : w1.drew.cell? ⟨w.heap.size, 1, none⟩ = some (Value.slice B1 rs1.length k1) := f11
  go_region_held3 (fun v => v.cell? ⟨w.heap.size, 0, none⟩ = some (Value.slice A1 xs1.length c1) ∧ v.cell? ⟨w.heap.size, 1, none⟩ = some (Value.slice B1 rs1.length k1)) (first | exact ⟨g0_0, g0_1⟩ | exact ⟨g1_0, g1_1⟩ | exact ⟨g2_0, g2_1⟩ | exact ⟨g3_0, g3_1⟩) ((first | (go_at_call 16; (with_reducible refine (toI_R A0 c0 xs0 w1.drew (rd0.toI hs0 (by omega))).mono ?_); rintro e w2 ⟨Ap0, cp0, rfl, op0, hb2⟩; have szk2 := hb2.size; have g1_0 : w2.cell? ⟨w.heap.size, 0, none⟩ = some (Value.slice A1 xs1.length c1) := (hb2.cell (p := ⟨w.heap.size, 0, none⟩) (by show w.heap.size < _; omega)).trans g0_0; have g1_1 : w2.cell? ⟨w.heap.size, 1, none⟩ = some (Value.slice B1 rs1.length k1) := (hb2.cell (p := ⟨w.heap.size, 1, none⟩) (by show w.heap.size < _; omega)).trans g0_1; have rd1 := rd1.below (hb2.mono (by omega)); have rp0 := op0.read) | (go_at_call 46; (with_reducible refine (toM_R A1 B1 c1 k1 xs1 rs1 w2 (rd1.toM (by omega) (by omega) (by omega))).mono ?_); rintro e w3 ⟨Ap1, Bp1, cp1, kp1, Rp1, rfl, ep1, op1, hb3⟩; have szk3 := hb3.size; have g2_0 : w3.cell? ⟨w.heap.size, 0, none⟩ = some (Value.slice A1 xs1.length c1) := (hb3.cell (p := ⟨w.heap.size, 0, none⟩) (by show w.heap.size < _; omega)).trans g1_0; have g2_1 : w3.cell? ⟨w.heap.size, 1, none⟩ = some (Value.slice B1 rs1.length k1) := (hb3.cell (p := ⟨w.heap.size, 1, none⟩) (by show w.heap.size < _; omega)).trans g1_1; have op0 := op0.below hb3; have rp0 := op0.read; have rp1 := op1.read; have zp1 : Rp1.length ≤ rs1.length := Nat.le_of_eq (map_len ep1); have yp1 : sizeR Rp1 ≤ sizeR rs1 := Nat.le_of_eq (map_size ep1)) | (go_at_call 45; have ct := countMesh_spec Ap0 cp0 xs0 Ap1 Bp1 cp1 kp1 xs1 Rp1 w3 (rp0.toI (by omega) (by omega)) (rp1.toM (by omega) (by omega) (by omega)); (try rw [ep1] at ct); (with_reducible refine ct.mono ?_); clear ct; rintro e w4 ⟨rfl, hb4⟩; have g3_0 : w4.cell? ⟨w.heap.size, 0, none⟩ = some (Value.slice A1 xs1.length c1) := (hb4.cell (p := ⟨w.heap.size, 0, none⟩) (by show w.heap.size < _; omega)).trans g2_0; have g3_1 : w4.cell? ⟨w.heap.size, 1, none⟩ = some (Value.slice B1 rs1.length k1) := (hb4.cell (p := ⟨w.heap.size, 1, none⟩) (by show w.heap.size < _; omega)).trans g2_1)))
  have hb2 : Below w1.heap.size w1 w2 := (below_dr (Below.refl _ _) (Dr.refl _).drew).trans hb2
  have ob1 := obj_below ob1 hb2 (obj_lt ob1)
  have f10 : (w2).cell? ⟨w.heap.size, 0, none⟩ = some (Value.slice A1 xs1.length c1) := (obj_cell ob1).trans rfl
  have f11 : (w2).cell? ⟨w.heap.size, 1, none⟩ = some (Value.slice B1 rs1.length k1) := (obj_cell ob1).trans rfl
  have sz4 : w1.heap.size ≤ w2.heap.size := hb2.size
  have r0 := r0.below (hb2.mono (by omega))
  have r1 := r1.below (hb2.mono (by omega))
  have HB := HB.trans (hb2.mono (by omega))
  have ob1 := obj_below ob1 hb3 (obj_lt ob1)
  have f10 : (w3).cell? ⟨w.heap.size, 0, none⟩ = some (Value.slice A1 xs1.length c1) := (obj_cell ob1).trans rfl
  have f11 : (w3).cell? ⟨w.heap.size, 1, none⟩ = some (Value.slice B1 rs1.length k1) := (obj_cell ob1).trans rfl
  have sz5 : w2.heap.size ≤ w3.heap.size := hb3.size
  have r0 := r0.below (hb3.mono (by omega))
  have r1 := r1.below (hb3.mono (by omega))
  have HB := HB.trans (hb3.mono (by omega))
  have ob1 := obj_below ob1 hb4 (obj_lt ob1)
  have f10 : (w4).cell? ⟨w.heap.size, 0, none⟩ = some (Value.slice A1 xs1.length c1) := (obj_cell ob1).trans rfl
  have f11 : (w4).cell? ⟨w.heap.size, 1, none⟩ = some (Value.slice B1 rs1.length k1) := (obj_cell ob1).trans rfl
  have sz6 : w3.heap.size ≤ w4.heap.size := hb4.size
  have r0 := r0.below (hb4.mono (by omega))
  have r1 := r1.below (hb4.mono (by omega))
  have HB := HB.trans (hb4.mono (by omega))
  go_wp2_with fail
  (with_reducible refine (toI_R A0 c0 xs0 w4 (r0.toI hs0 (by omega))).mono ?_)
  rintro e w5 ⟨Ax0, cx0, rfl, ox0, hb5⟩
  have ob1 := obj_below ob1 hb5 (obj_lt ob1)
  have f10 : (w5).cell? ⟨w.heap.size, 0, none⟩ = some (Value.slice A1 xs1.length c1) := (obj_cell ob1).trans rfl
  have f11 : (w5).cell? ⟨w.heap.size, 1, none⟩ = some (Value.slice B1 rs1.length k1) := (obj_cell ob1).trans rfl
  have sz7 : w4.heap.size ≤ w5.heap.size := hb5.size
  have r0 := r0.below (hb5.mono (by omega))
  have r1 := r1.below (hb5.mono (by omega))
  have HB := HB.trans (hb5.mono (by omega))
  have rx0 := ox0.read
  go_wp2_with fail
  (with_reducible refine (toM_R A1 B1 c1 k1 xs1 rs1 w5 (r1.toM (by omega) (by omega) (by omega))).mono ?_)
  rintro e w6 ⟨Ax1, Bx1, cx1, kx1, Rx1, rfl, ex1, ox1, hb6⟩
  have ob1 := obj_below ob1 hb6 (obj_lt ob1)
  have f10 : (w6).cell? ⟨w.heap.size, 0, none⟩ = some (Value.slice A1 xs1.length c1) := (obj_cell ob1).trans rfl
  have f11 : (w6).cell? ⟨w.heap.size, 1, none⟩ = some (Value.slice B1 rs1.length k1) := (obj_cell ob1).trans rfl
  have sz8 : w5.heap.size ≤ w6.heap.size := hb6.size
  have r0 := r0.below (hb6.mono (by omega))
  have r1 := r1.below (hb6.mono (by omega))
  have rx0 := rx0.below (hb6.mono (by omega))
  have ox0 := ox0.below hb6
  have HB := HB.trans (hb6.mono (by omega))
  have rx1 := ox1.read
  have zx1 : Rx1.length ≤ rs1.length := Nat.le_of_eq (map_len ex1)
  have yx1 : sizeR Rx1 ≤ sizeR rs1 := Nat.le_of_eq (map_size ex1)
  have hb7 : Below w6.heap.size w6 ((w6.alloc (Obj.cells #[Value.slice Ax1 xs1.length cx1, Value.slice Bx1 Rx1.length kx1] 51))) := (Below.refl _ _).alloc (Nat.le_refl _) _
  have ob1q : ((w6.alloc (Obj.cells #[Value.slice Ax1 xs1.length cx1, Value.slice Bx1 Rx1.length kx1] 51))).heap[w.heap.size]? = some (Obj.cells #[Value.slice A1 xs1.length c1, Value.slice B1 rs1.length k1] 48) := obj_below ob1 hb7 (obj_lt ob1)
  have f10 : ((w6.alloc (Obj.cells #[Value.slice Ax1 xs1.length cx1, Value.slice Bx1 Rx1.length kx1] 51))).cell? ⟨w.heap.size, 0, none⟩ = some (Value.slice A1 xs1.length c1) := (obj_cell ob1q).trans rfl
  have f11 : ((w6.alloc (Obj.cells #[Value.slice Ax1 xs1.length cx1, Value.slice Bx1 Rx1.length kx1] 51))).cell? ⟨w.heap.size, 1, none⟩ = some (Value.slice B1 rs1.length k1) := (obj_cell ob1q).trans rfl
  clear ob1q
  have obx1 : ((w6.alloc (Obj.cells #[Value.slice Ax1 xs1.length cx1, Value.slice Bx1 Rx1.length kx1] 51))).heap[w6.heap.size]? = some (Obj.cells #[Value.slice Ax1 xs1.length cx1, Value.slice Bx1 Rx1.length kx1] 51) := obj_new _ _
  have fx10 : ((w6.alloc (Obj.cells #[Value.slice Ax1 xs1.length cx1, Value.slice Bx1 Rx1.length kx1] 51))).cell? ⟨w6.heap.size, 0, none⟩ = some (Value.slice Ax1 xs1.length cx1) := (obj_cell obx1).trans rfl
  have fx11 : ((w6.alloc (Obj.cells #[Value.slice Ax1 xs1.length cx1, Value.slice Bx1 Rx1.length kx1] 51))).cell? ⟨w6.heap.size, 1, none⟩ = some (Value.slice Bx1 Rx1.length kx1) := (obj_cell obx1).trans rfl
  go_wp2_with fail
  generalize (w6.alloc (Obj.cells #[Value.slice Ax1 xs1.length cx1, Value.slice Bx1 Rx1.length kx1] 51)) = w7 at hb7 f10 f11 obx1 fx10 fx11 ⊢
  have ltx1 := obj_lt obx1
  have ob1 := obj_below ob1 hb7 (obj_lt ob1)
  have f10 : (w7).cell? ⟨w.heap.size, 0, none⟩ = some (Value.slice A1 xs1.length c1) := (obj_cell ob1).trans rfl
  have f11 : (w7).cell? ⟨w.heap.size, 1, none⟩ = some (Value.slice B1 rs1.length k1) := (obj_cell ob1).trans rfl
  have fx10 : (w7).cell? ⟨w6.heap.size, 0, none⟩ = some (Value.slice Ax1 xs1.length cx1) := (obj_cell obx1).trans rfl
  have fx11 : (w7).cell? ⟨w6.heap.size, 1, none⟩ = some (Value.slice Bx1 Rx1.length kx1) := (obj_cell obx1).trans rfl
  have sz9 : w6.heap.size ≤ w7.heap.size := hb7.size
  have r0 := r0.below (hb7.mono (by omega))
  have r1 := r1.below (hb7.mono (by omega))
  have rx0 := rx0.below (hb7.mono (by omega))
  have rx1 := rx1.below (hb7.mono (by omega))
  have ox0 := ox0.below hb7
  have ox1 := ox1.below hb7
  have HB := HB.trans (hb7.mono (by omega))
  have ct := countMesh_impl Ax0 cx0 xs0 Ax1 Bx1 cx1 kx1 xs1 Rx1 w7 (rx0.toI (by omega) (by omega)) (rx1.toM (by omega) (by omega) (by omega))
  try rw [ex1] at ct
  (with_reducible refine ct.mono ?_)
  clear ct
  rintro e w8 ⟨rfl, hb8⟩
  have ob1 := obj_below ob1 hb8 (obj_lt ob1)
  have obx1 := obj_below obx1 hb8 (obj_lt obx1)
  have f10 : (w8).cell? ⟨w.heap.size, 0, none⟩ = some (Value.slice A1 xs1.length c1) := (obj_cell ob1).trans rfl
  have f11 : (w8).cell? ⟨w.heap.size, 1, none⟩ = some (Value.slice B1 rs1.length k1) := (obj_cell ob1).trans rfl
  have fx10 : (w8).cell? ⟨w6.heap.size, 0, none⟩ = some (Value.slice Ax1 xs1.length cx1) := (obj_cell obx1).trans rfl
  have fx11 : (w8).cell? ⟨w6.heap.size, 1, none⟩ = some (Value.slice Bx1 Rx1.length kx1) := (obj_cell obx1).trans rfl
  have sz10 : w7.heap.size ≤ w8.heap.size := hb8.size
  have r0 := r0.below (hb8.mono (by omega))
  have r1 := r1.below (hb8.mono (by omega))
  have rx0 := rx0.below (hb8.mono (by omega))
  have rx1 := rx1.below (hb8.mono (by omega))
  have ox0 := ox0.below hb8
  have ox1 := ox1.below hb8
  have HB := HB.trans (hb8.mono (by omega))
  go_wp2_with fail
  (with_reducible refine (toI_R A0 c0 xs0 w8 (r0.toI hs0 (by omega))).mono ?_)
  rintro e w9 ⟨Ay0, cy0, rfl, oy0, hb9⟩
  have ob1 := obj_below ob1 hb9 (obj_lt ob1)
  have obx1 := obj_below obx1 hb9 (obj_lt obx1)
  have f10 : (w9).cell? ⟨w.heap.size, 0, none⟩ = some (Value.slice A1 xs1.length c1) := (obj_cell ob1).trans rfl
  have f11 : (w9).cell? ⟨w.heap.size, 1, none⟩ = some (Value.slice B1 rs1.length k1) := (obj_cell ob1).trans rfl
  have fx10 : (w9).cell? ⟨w6.heap.size, 0, none⟩ = some (Value.slice Ax1 xs1.length cx1) := (obj_cell obx1).trans rfl
  have fx11 : (w9).cell? ⟨w6.heap.size, 1, none⟩ = some (Value.slice Bx1 Rx1.length kx1) := (obj_cell obx1).trans rfl
  have sz11 : w8.heap.size ≤ w9.heap.size := hb9.size
  have r0 := r0.below (hb9.mono (by omega))
  have r1 := r1.below (hb9.mono (by omega))
  have rx0 := rx0.below (hb9.mono (by omega))
  have rx1 := rx1.below (hb9.mono (by omega))
  have ox0 := ox0.below hb9
  have ox1 := ox1.below hb9
  have HB := HB.trans (hb9.mono (by omega))
  have ry0 := oy0.read
  go_wp2_with fail
  (with_reducible refine (eqI_R Ax0 Ay0 cx0 cy0 xs0 w9 (rx0.toI (by omega) (by omega)) (ry0.toI (by omega) (by omega))).mono ?_)
  rintro e w10 ⟨rfl, hb10⟩
  have ob1 := obj_below ob1 hb10 (obj_lt ob1)
  have obx1 := obj_below obx1 hb10 (obj_lt obx1)
  have f10 : (w10).cell? ⟨w.heap.size, 0, none⟩ = some (Value.slice A1 xs1.length c1) := (obj_cell ob1).trans rfl
  have f11 : (w10).cell? ⟨w.heap.size, 1, none⟩ = some (Value.slice B1 rs1.length k1) := (obj_cell ob1).trans rfl
  have fx10 : (w10).cell? ⟨w6.heap.size, 0, none⟩ = some (Value.slice Ax1 xs1.length cx1) := (obj_cell obx1).trans rfl
  have fx11 : (w10).cell? ⟨w6.heap.size, 1, none⟩ = some (Value.slice Bx1 Rx1.length kx1) := (obj_cell obx1).trans rfl
  have sz12 : w9.heap.size ≤ w10.heap.size := hb10.size
  have r0 := r0.below (hb10.mono (by omega))
  have r1 := r1.below (hb10.mono (by omega))
  have rx0 := rx0.below (hb10.mono (by omega))
  have rx1 := rx1.below (hb10.mono (by omega))
  have ry0 := ry0.below (hb10.mono (by omega))
  have ox0 := ox0.below hb10
  have ox1 := ox1.below hb10
  have oy0 := oy0.below hb10
  have HB := HB.trans (hb10.mono (by omega))
  clear oy0 ry0
  go_wp2_with fail
  have szd : w10.drew.heap.size = w10.heap.size := rfl
  have rd1 : Read w10.drew w10.heap.size (⟨A1, c1, xs1⟩ :: rs1) [⟨B1, k1, rs1.map Row.v⟩] := (r1.dr (Dr.refl _).drew).more (by omega)
  have rdx1 : Read w10.drew w10.heap.size (⟨Ax1, cx1, xs1⟩ :: Rx1) [⟨Bx1, kx1, Rx1.map Row.v⟩] := (rx1.dr (Dr.refl _).drew).more (by omega)
  have g10 : w10.drew.cell? ⟨w.heap.size, 0, none⟩ = some (Value.slice A1 xs1.length c1) := f10
  have g11 : w10.drew.cell? ⟨w.heap.size, 1, none⟩ = some (Value.slice B1 rs1.length k1) := f11
  have gx10 : w10.drew.cell? ⟨w6.heap.size, 0, none⟩ = some (Value.slice Ax1 xs1.length cx1) := fx10
  have gx11 : w10.drew.cell? ⟨w6.heap.size, 1, none⟩ = some (Value.slice Bx1 Rx1.length kx1) := fx11
  go_region_held3 (fun v => v.cell? ⟨w.heap.size, 0, none⟩ = some (Value.slice A1 xs1.length c1) ∧ v.cell? ⟨w.heap.size, 1, none⟩ = some (Value.slice B1 rs1.length k1) ∧ v.cell? ⟨w6.heap.size, 0, none⟩ = some (Value.slice Ax1 xs1.length cx1) ∧ v.cell? ⟨w6.heap.size, 1, none⟩ = some (Value.slice Bx1 Rx1.length kx1)) (first | exact ⟨g10, g11, gx10, gx11⟩ | exact ⟨h10, h11, hx10, hx11⟩ | exact ⟨q10, q11, qx10, qx11⟩) ((first | (go_at_call 46; (with_reducible refine (toM_R A1 B1 c1 k1 xs1 rs1 w10.drew (rd1.toM (by omega) (by omega) (by omega))).mono ?_); rintro e w11 ⟨Ay1, By1, cy1, ky1, Ry1, rfl, ey1, oy1, hb11⟩; have szk11 := hb11.size; have h10 : w11.cell? ⟨w.heap.size, 0, none⟩ = some (Value.slice A1 xs1.length c1) := (hb11.cell (obj_lt ob1)).trans g10; have h11 : w11.cell? ⟨w.heap.size, 1, none⟩ = some (Value.slice B1 rs1.length k1) := (hb11.cell (obj_lt ob1)).trans g11; have hx10 : w11.cell? ⟨w6.heap.size, 0, none⟩ = some (Value.slice Ax1 xs1.length cx1) := (hb11.cell (obj_lt obx1)).trans gx10; have hx11 : w11.cell? ⟨w6.heap.size, 1, none⟩ = some (Value.slice Bx1 Rx1.length kx1) := (hb11.cell (obj_lt obx1)).trans gx11; have rdx1 := rdx1.below (hb11.mono (by omega)); have rdy1 := oy1.read; have zy1 : Ry1.length ≤ rs1.length := Nat.le_of_eq (map_len ey1); have yy1 : sizeR Ry1 ≤ sizeR rs1 := Nat.le_of_eq (map_size ey1)) | (go_at_call 48; (with_reducible refine (eqM_R Ax1 Ay1 Bx1 By1 cx1 cy1 kx1 ky1 xs1 Rx1 Ry1 w11 (rdx1.toM (by omega) (by omega) (by omega)) (rdy1.toM (by omega) (by omega) (by omega)) (ex1.trans ey1.symm)).mono ?_); rintro e w12 ⟨rfl, hb12⟩; have q10 : w12.cell? ⟨w.heap.size, 0, none⟩ = some (Value.slice A1 xs1.length c1) := (hb12.cell (Nat.lt_of_lt_of_le (obj_lt ob1) szk11)).trans h10; have q11 : w12.cell? ⟨w.heap.size, 1, none⟩ = some (Value.slice B1 rs1.length k1) := (hb12.cell (Nat.lt_of_lt_of_le (obj_lt ob1) szk11)).trans h11; have qx10 : w12.cell? ⟨w6.heap.size, 0, none⟩ = some (Value.slice Ax1 xs1.length cx1) := (hb12.cell (Nat.lt_of_lt_of_le (obj_lt obx1) szk11)).trans hx10; have qx11 : w12.cell? ⟨w6.heap.size, 1, none⟩ = some (Value.slice Bx1 Rx1.length kx1) := (hb12.cell (Nat.lt_of_lt_of_le (obj_lt obx1) szk11)).trans hx11)))
  have hb11 : Below w10.heap.size w10 w11 := (below_dr (Below.refl _ _) (Dr.refl _).drew).trans hb11
  have ob1 := obj_below ob1 hb11 (obj_lt ob1)
  have obx1 := obj_below obx1 hb11 (obj_lt obx1)
  have f10 : (w11).cell? ⟨w.heap.size, 0, none⟩ = some (Value.slice A1 xs1.length c1) := (obj_cell ob1).trans rfl
  have f11 : (w11).cell? ⟨w.heap.size, 1, none⟩ = some (Value.slice B1 rs1.length k1) := (obj_cell ob1).trans rfl
  have fx10 : (w11).cell? ⟨w6.heap.size, 0, none⟩ = some (Value.slice Ax1 xs1.length cx1) := (obj_cell obx1).trans rfl
  have fx11 : (w11).cell? ⟨w6.heap.size, 1, none⟩ = some (Value.slice Bx1 Rx1.length kx1) := (obj_cell obx1).trans rfl
  have sz13 : w10.heap.size ≤ w11.heap.size := hb11.size
  have r0 := r0.below (hb11.mono (by omega))
  have r1 := r1.below (hb11.mono (by omega))
  have rx0 := rx0.below (hb11.mono (by omega))
  have rx1 := rx1.below (hb11.mono (by omega))
  have ox0 := ox0.below hb11
  have ox1 := ox1.below hb11
  have HB := HB.trans (hb11.mono (by omega))
  have ob1 := obj_below ob1 hb12 (obj_lt ob1)
  have obx1 := obj_below obx1 hb12 (obj_lt obx1)
  have f10 : (w12).cell? ⟨w.heap.size, 0, none⟩ = some (Value.slice A1 xs1.length c1) := (obj_cell ob1).trans rfl
  have f11 : (w12).cell? ⟨w.heap.size, 1, none⟩ = some (Value.slice B1 rs1.length k1) := (obj_cell ob1).trans rfl
  have fx10 : (w12).cell? ⟨w6.heap.size, 0, none⟩ = some (Value.slice Ax1 xs1.length cx1) := (obj_cell obx1).trans rfl
  have fx11 : (w12).cell? ⟨w6.heap.size, 1, none⟩ = some (Value.slice Bx1 Rx1.length kx1) := (obj_cell obx1).trans rfl
  have sz14 : w11.heap.size ≤ w12.heap.size := hb12.size
  have r0 := r0.below (hb12.mono (by omega))
  have r1 := r1.below (hb12.mono (by omega))
  have rx0 := rx0.below (hb12.mono (by omega))
  have rx1 := rx1.below (hb12.mono (by omega))
  have ox0 := ox0.below hb12
  have ox1 := ox1.below hb12
  have HB := HB.trans (hb12.mono (by omega))
  go_wp2_with fail
  go_ret
  exact ⟨rfl, HB⟩
end Go.Proofs.Ytmkaelefljjamaa
