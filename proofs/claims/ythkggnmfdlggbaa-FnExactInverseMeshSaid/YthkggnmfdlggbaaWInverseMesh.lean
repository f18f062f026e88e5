/- The walk of FnExactInverseMesh: every call by its contract. -/
import Derived.Test.YthkggnmfdlggbaaX3S
import Derived.Test.YthkggnmfdlggbaaR2
import Derived.Deep.RegionHeld3
namespace Go.Proofs.Ythkggnmfdlggbaa
set_option maxRecDepth 100000
open Go Go.RowKit

set_option maxHeartbeats 2000000 in
set_option maxRecDepth 100000 in
theorem walk_FnExactInverseMesh (w : World) (A0 B0 : Option Addr) (c0 k0 : Nat) (xs0 : List Int) (rs0 : List Row) (ar0 : Arg w (⟨A0, c0, xs0⟩ :: rs0) [⟨B0, k0, rs0.map Row.v⟩]) :
    Calls Try.prog 4 #[.agg #[.slice A0 xs0.length c0, .slice B0 rs0.length k0]] w (Rb w (.bool true)) := by
  have _hq0 := Nat.zero_le (xs0.length + (rs0.length + sizeR rs0))
  rcases Nat.lt_or_ge 1048576 ((xs0.length + (rs0.length + sizeR rs0))) with hbig | hz0
  · go_enter Try.func4, Try.ntmps4
    go_wp2_with fail
    have HB : Below w.heap.size w (w.alloc (Obj.cells #[Value.slice A0 xs0.length c0, Value.slice B0 rs0.length k0] 35)) := (Below.refl _ _).alloc (Nat.le_refl _) _
    have ob0 := obj_new w (Obj.cells #[Value.slice A0 xs0.length c0, Value.slice B0 rs0.length k0] 35)
    have szb : (w.alloc (Obj.cells #[Value.slice A0 xs0.length c0, Value.slice B0 rs0.length k0] 35)).heap.size = w.heap.size + 1 := by simp
    generalize (w.alloc (Obj.cells #[Value.slice A0 xs0.length c0, Value.slice B0 rs0.length k0] 35)) = wb at HB ob0 szb ⊢
    have f00 : (wb).cell? ⟨w.heap.size, 0, none⟩ = some (Value.slice A0 xs0.length c0) := (obj_cell ob0).trans rfl
    have f01 : (wb).cell? ⟨w.heap.size, 1, none⟩ = some (Value.slice B0 rs0.length k0) := (obj_cell ob0).trans rfl
    (with_reducible refine (szM_no A0 B0 c0 k0 xs0 rs0 (1048576) wb (ar0.below HB) (by omega) (by omega)).mono ?_)
    rintro e v0 ⟨rfl, hb0⟩
    have HB := HB.trans (hb0.mono HB.size)
    have ob0 := obj_below ob0 hb0 (obj_lt ob0)
    have f00 : (v0).cell? ⟨w.heap.size, 0, none⟩ = some (Value.slice A0 xs0.length c0) := (obj_cell ob0).trans rfl
    have f01 : (v0).cell? ⟨w.heap.size, 1, none⟩ = some (Value.slice B0 rs0.length k0) := (obj_cell ob0).trans rfl
    go_wp2
    go_ret
    exact ⟨rfl, HB⟩
  go_enter Try.func4, Try.ntmps4
  have r0 := ar0.read
  go_wp2_with fail
  have HB : Below w.heap.size w (w.alloc (Obj.cells #[Value.slice A0 xs0.length c0, Value.slice B0 rs0.length k0] 35)) := (Below.refl _ _).alloc (Nat.le_refl _) _
  have ob0 := obj_new w (Obj.cells #[Value.slice A0 xs0.length c0, Value.slice B0 rs0.length k0] 35)
  have szb : (w.alloc (Obj.cells #[Value.slice A0 xs0.length c0, Value.slice B0 rs0.length k0] 35)).heap.size = w.heap.size + 1 := by simp
  generalize (w.alloc (Obj.cells #[Value.slice A0 xs0.length c0, Value.slice B0 rs0.length k0] 35)) = wb at HB ob0 szb ⊢
  have f00 : (wb).cell? ⟨w.heap.size, 0, none⟩ = some (Value.slice A0 xs0.length c0) := (obj_cell ob0).trans rfl
  have f01 : (wb).cell? ⟨w.heap.size, 1, none⟩ = some (Value.slice B0 rs0.length k0) := (obj_cell ob0).trans rfl
  have sz1 : w.heap.size ≤ wb.heap.size := by omega
  have r0 := r0.below HB
  (with_reducible refine (szM_ok A0 B0 c0 k0 xs0 rs0 (1048576) wb (ar0.below HB) (by omega) (by omega)).mono ?_)
  rintro e w1 ⟨rfl, hb1⟩
  have ob0 := obj_below ob0 hb1 (obj_lt ob0)
  have f00 : (w1).cell? ⟨w.heap.size, 0, none⟩ = some (Value.slice A0 xs0.length c0) := (obj_cell ob0).trans rfl
  have f01 : (w1).cell? ⟨w.heap.size, 1, none⟩ = some (Value.slice B0 rs0.length k0) := (obj_cell ob0).trans rfl
  have sz3 : wb.heap.size ≤ w1.heap.size := hb1.size
  have r0 := r0.below (hb1.mono (by omega))
  have HB := HB.trans (hb1.mono (by omega))
  go_wp2_with fail
  (with_reducible refine (toM_R A0 B0 c0 k0 xs0 rs0 w1 (r0.toM (by omega) (by omega) (by omega))).mono ?_)
  rintro e w2 ⟨Ap0, Bp0, cp0, kp0, Rp0, rfl, ep0, op0, hb2⟩
  have ob0 := obj_below ob0 hb2 (obj_lt ob0)
  have f00 : (w2).cell? ⟨w.heap.size, 0, none⟩ = some (Value.slice A0 xs0.length c0) := (obj_cell ob0).trans rfl
  have f01 : (w2).cell? ⟨w.heap.size, 1, none⟩ = some (Value.slice B0 rs0.length k0) := (obj_cell ob0).trans rfl
  have sz4 : w1.heap.size ≤ w2.heap.size := hb2.size
  have r0 := r0.below (hb2.mono (by omega))
  have HB := HB.trans (hb2.mono (by omega))
  have rp0 := op0.read
  have zp0 : Rp0.length ≤ rs0.length := Nat.le_of_eq (map_len ep0)
  have yp0 : sizeR Rp0 ≤ sizeR rs0 := Nat.le_of_eq (map_size ep0)
  go_wp2_with fail
  have ct := inverseMesh_spec Ap0 Bp0 cp0 kp0 xs0 Rp0 w2 (rp0.toM (by omega) (by omega) (by omega))
  try rw [ep0] at ct
  (with_reducible refine ct.mono ?_)
  clear ct
  rintro e w3 ⟨AW, BW, cW, kW, RW, rfl, eW, oW, hb3⟩
  have ob0 := obj_below ob0 hb3 (obj_lt ob0)
  have f00 : (w3).cell? ⟨w.heap.size, 0, none⟩ = some (Value.slice A0 xs0.length c0) := (obj_cell ob0).trans rfl
  have f01 : (w3).cell? ⟨w.heap.size, 1, none⟩ = some (Value.slice B0 rs0.length k0) := (obj_cell ob0).trans rfl
  have sz5 : w2.heap.size ≤ w3.heap.size := hb3.size
  have r0 := r0.below (hb3.mono (by omega))
  have rp0 := rp0.below (hb3.mono (by omega))
  have op0 := op0.below hb3
  have HB := HB.trans (hb3.mono (by omega))
  have rW := oW.read
  have zW : RW.length ≤ (imG2 xs0 (rs0.map Row.xs)).length := Nat.le_of_eq (map_len1 eW)
  have yW : sizeR RW ≤ sizeX (imG2 xs0 (rs0.map Row.xs)) := Nat.le_of_eq (map_size1 eW)
  have hb4 : Below w3.heap.size w3 ((w3.alloc (Obj.cells #[Value.slice AW ((imG1 xs0 (rs0.map Row.xs))).length cW, Value.slice BW RW.length kW] 37))) := (Below.refl _ _).alloc (Nat.le_refl _) _
  have ob0q : ((w3.alloc (Obj.cells #[Value.slice AW ((imG1 xs0 (rs0.map Row.xs))).length cW, Value.slice BW RW.length kW] 37))).heap[w.heap.size]? = some (Obj.cells #[Value.slice A0 xs0.length c0, Value.slice B0 rs0.length k0] 35) := obj_below ob0 hb4 (obj_lt ob0)
  have f00 : ((w3.alloc (Obj.cells #[Value.slice AW ((imG1 xs0 (rs0.map Row.xs))).length cW, Value.slice BW RW.length kW] 37))).cell? ⟨w.heap.size, 0, none⟩ = some (Value.slice A0 xs0.length c0) := (obj_cell ob0q).trans rfl
  have f01 : ((w3.alloc (Obj.cells #[Value.slice AW ((imG1 xs0 (rs0.map Row.xs))).length cW, Value.slice BW RW.length kW] 37))).cell? ⟨w.heap.size, 1, none⟩ = some (Value.slice B0 rs0.length k0) := (obj_cell ob0q).trans rfl
  clear ob0q
  have obW : ((w3.alloc (Obj.cells #[Value.slice AW ((imG1 xs0 (rs0.map Row.xs))).length cW, Value.slice BW RW.length kW] 37))).heap[w3.heap.size]? = some (Obj.cells #[Value.slice AW ((imG1 xs0 (rs0.map Row.xs))).length cW, Value.slice BW RW.length kW] 37) := obj_new _ _
  have fW0 : ((w3.alloc (Obj.cells #[Value.slice AW ((imG1 xs0 (rs0.map Row.xs))).length cW, Value.slice BW RW.length kW] 37))).cell? ⟨w3.heap.size, 0, none⟩ = some (Value.slice AW ((imG1 xs0 (rs0.map Row.xs))).length cW) := (obj_cell obW).trans rfl
  have fW1 : ((w3.alloc (Obj.cells #[Value.slice AW ((imG1 xs0 (rs0.map Row.xs))).length cW, Value.slice BW RW.length kW] 37))).cell? ⟨w3.heap.size, 1, none⟩ = some (Value.slice BW RW.length kW) := (obj_cell obW).trans rfl
  clear op0 rp0
  go_wp2_with fail
  generalize (w3.alloc (Obj.cells #[Value.slice AW ((imG1 xs0 (rs0.map Row.xs))).length cW, Value.slice BW RW.length kW] 37)) = w4 at hb4 f00 f01 obW fW0 fW1 ⊢
  have ltW := obj_lt obW
  have ob0 := obj_below ob0 hb4 (obj_lt ob0)
  have f00 : (w4).cell? ⟨w.heap.size, 0, none⟩ = some (Value.slice A0 xs0.length c0) := (obj_cell ob0).trans rfl
  have f01 : (w4).cell? ⟨w.heap.size, 1, none⟩ = some (Value.slice B0 rs0.length k0) := (obj_cell ob0).trans rfl
  have fW0 : (w4).cell? ⟨w3.heap.size, 0, none⟩ = some (Value.slice AW ((imG1 xs0 (rs0.map Row.xs))).length cW) := (obj_cell obW).trans rfl
  have fW1 : (w4).cell? ⟨w3.heap.size, 1, none⟩ = some (Value.slice BW RW.length kW) := (obj_cell obW).trans rfl
  have sz6 : w3.heap.size ≤ w4.heap.size := hb4.size
  have r0 := r0.below (hb4.mono (by omega))
  have rW := rW.below (hb4.mono (by omega))
  have oW := oW.below hb4
  have HB := HB.trans (hb4.mono (by omega))
  (with_reducible refine (toM_R A0 B0 c0 k0 xs0 rs0 w4 (r0.toM (by omega) (by omega) (by omega))).mono ?_)
  rintro e w5 ⟨Ax0, Bx0, cx0, kx0, Rx0, rfl, ex0, ox0, hb5⟩
  have ob0 := obj_below ob0 hb5 (obj_lt ob0)
  have obW := obj_below obW hb5 (obj_lt obW)
  have f00 : (w5).cell? ⟨w.heap.size, 0, none⟩ = some (Value.slice A0 xs0.length c0) := (obj_cell ob0).trans rfl
  have f01 : (w5).cell? ⟨w.heap.size, 1, none⟩ = some (Value.slice B0 rs0.length k0) := (obj_cell ob0).trans rfl
  have fW0 : (w5).cell? ⟨w3.heap.size, 0, none⟩ = some (Value.slice AW ((imG1 xs0 (rs0.map Row.xs))).length cW) := (obj_cell obW).trans rfl
  have fW1 : (w5).cell? ⟨w3.heap.size, 1, none⟩ = some (Value.slice BW RW.length kW) := (obj_cell obW).trans rfl
  have sz7 : w4.heap.size ≤ w5.heap.size := hb5.size
  have r0 := r0.below (hb5.mono (by omega))
  have rW := rW.below (hb5.mono (by omega))
  have oW := oW.below hb5
  have HB := HB.trans (hb5.mono (by omega))
  have rx0 := ox0.read
  have zx0 : Rx0.length ≤ rs0.length := Nat.le_of_eq (map_len ex0)
  have yx0 : sizeR Rx0 ≤ sizeR rs0 := Nat.le_of_eq (map_size ex0)
  have hb6 : Below w5.heap.size w5 ((w5.alloc (Obj.cells #[Value.slice Ax0 xs0.length cx0, Value.slice Bx0 Rx0.length kx0] 37))) := (Below.refl _ _).alloc (Nat.le_refl _) _
  have ob0q : ((w5.alloc (Obj.cells #[Value.slice Ax0 xs0.length cx0, Value.slice Bx0 Rx0.length kx0] 37))).heap[w.heap.size]? = some (Obj.cells #[Value.slice A0 xs0.length c0, Value.slice B0 rs0.length k0] 35) := obj_below ob0 hb6 (obj_lt ob0)
  have f00 : ((w5.alloc (Obj.cells #[Value.slice Ax0 xs0.length cx0, Value.slice Bx0 Rx0.length kx0] 37))).cell? ⟨w.heap.size, 0, none⟩ = some (Value.slice A0 xs0.length c0) := (obj_cell ob0q).trans rfl
  have f01 : ((w5.alloc (Obj.cells #[Value.slice Ax0 xs0.length cx0, Value.slice Bx0 Rx0.length kx0] 37))).cell? ⟨w.heap.size, 1, none⟩ = some (Value.slice B0 rs0.length k0) := (obj_cell ob0q).trans rfl
  clear ob0q
  have obWq : ((w5.alloc (Obj.cells #[Value.slice Ax0 xs0.length cx0, Value.slice Bx0 Rx0.length kx0] 37))).heap[w3.heap.size]? = some (Obj.cells #[Value.slice AW ((imG1 xs0 (rs0.map Row.xs))).length cW, Value.slice BW RW.length kW] 37) := obj_below obW hb6 (obj_lt obW)
  have fW0 : ((w5.alloc (Obj.cells #[Value.slice Ax0 xs0.length cx0, Value.slice Bx0 Rx0.length kx0] 37))).cell? ⟨w3.heap.size, 0, none⟩ = some (Value.slice AW ((imG1 xs0 (rs0.map Row.xs))).length cW) := (obj_cell obWq).trans rfl
  have fW1 : ((w5.alloc (Obj.cells #[Value.slice Ax0 xs0.length cx0, Value.slice Bx0 Rx0.length kx0] 37))).cell? ⟨w3.heap.size, 1, none⟩ = some (Value.slice BW RW.length kW) := (obj_cell obWq).trans rfl
  clear obWq
  have obx0 : ((w5.alloc (Obj.cells #[Value.slice Ax0 xs0.length cx0, Value.slice Bx0 Rx0.length kx0] 37))).heap[w5.heap.size]? = some (Obj.cells #[Value.slice Ax0 xs0.length cx0, Value.slice Bx0 Rx0.length kx0] 37) := obj_new _ _
  have fx00 : ((w5.alloc (Obj.cells #[Value.slice Ax0 xs0.length cx0, Value.slice Bx0 Rx0.length kx0] 37))).cell? ⟨w5.heap.size, 0, none⟩ = some (Value.slice Ax0 xs0.length cx0) := (obj_cell obx0).trans rfl
  have fx01 : ((w5.alloc (Obj.cells #[Value.slice Ax0 xs0.length cx0, Value.slice Bx0 Rx0.length kx0] 37))).cell? ⟨w5.heap.size, 1, none⟩ = some (Value.slice Bx0 Rx0.length kx0) := (obj_cell obx0).trans rfl
  go_wp2_with fail
  generalize (w5.alloc (Obj.cells #[Value.slice Ax0 xs0.length cx0, Value.slice Bx0 Rx0.length kx0] 37)) = w6 at hb6 f00 f01 fW0 fW1 obx0 fx00 fx01 ⊢
  have ltx0 := obj_lt obx0
  have ob0 := obj_below ob0 hb6 (obj_lt ob0)
  have obW := obj_below obW hb6 (obj_lt obW)
  have f00 : (w6).cell? ⟨w.heap.size, 0, none⟩ = some (Value.slice A0 xs0.length c0) := (obj_cell ob0).trans rfl
  have f01 : (w6).cell? ⟨w.heap.size, 1, none⟩ = some (Value.slice B0 rs0.length k0) := (obj_cell ob0).trans rfl
  have fW0 : (w6).cell? ⟨w3.heap.size, 0, none⟩ = some (Value.slice AW ((imG1 xs0 (rs0.map Row.xs))).length cW) := (obj_cell obW).trans rfl
  have fW1 : (w6).cell? ⟨w3.heap.size, 1, none⟩ = some (Value.slice BW RW.length kW) := (obj_cell obW).trans rfl
  have fx00 : (w6).cell? ⟨w5.heap.size, 0, none⟩ = some (Value.slice Ax0 xs0.length cx0) := (obj_cell obx0).trans rfl
  have fx01 : (w6).cell? ⟨w5.heap.size, 1, none⟩ = some (Value.slice Bx0 Rx0.length kx0) := (obj_cell obx0).trans rfl
  have sz8 : w5.heap.size ≤ w6.heap.size := hb6.size
  have r0 := r0.below (hb6.mono (by omega))
  have rW := rW.below (hb6.mono (by omega))
  have rx0 := rx0.below (hb6.mono (by omega))
  have oW := oW.below hb6
  have ox0 := ox0.below hb6
  have HB := HB.trans (hb6.mono (by omega))
  have ct := inverseMesh_impl Ax0 Bx0 cx0 kx0 xs0 Rx0 w6 (rx0.toM (by omega) (by omega) (by omega))
  try rw [ex0] at ct
  (with_reducible refine ct.mono ?_)
  clear ct
  rintro e w7 ⟨Ag, Bg, cg, kg, Rg, rfl, eg, og, hb7⟩
  have ob0 := obj_below ob0 hb7 (obj_lt ob0)
  have obW := obj_below obW hb7 (obj_lt obW)
  have obx0 := obj_below obx0 hb7 (obj_lt obx0)
  have f00 : (w7).cell? ⟨w.heap.size, 0, none⟩ = some (Value.slice A0 xs0.length c0) := (obj_cell ob0).trans rfl
  have f01 : (w7).cell? ⟨w.heap.size, 1, none⟩ = some (Value.slice B0 rs0.length k0) := (obj_cell ob0).trans rfl
  have fW0 : (w7).cell? ⟨w3.heap.size, 0, none⟩ = some (Value.slice AW ((imG1 xs0 (rs0.map Row.xs))).length cW) := (obj_cell obW).trans rfl
  have fW1 : (w7).cell? ⟨w3.heap.size, 1, none⟩ = some (Value.slice BW RW.length kW) := (obj_cell obW).trans rfl
  have fx00 : (w7).cell? ⟨w5.heap.size, 0, none⟩ = some (Value.slice Ax0 xs0.length cx0) := (obj_cell obx0).trans rfl
  have fx01 : (w7).cell? ⟨w5.heap.size, 1, none⟩ = some (Value.slice Bx0 Rx0.length kx0) := (obj_cell obx0).trans rfl
  have sz9 : w6.heap.size ≤ w7.heap.size := hb7.size
  have r0 := r0.below (hb7.mono (by omega))
  have rW := rW.below (hb7.mono (by omega))
  have rx0 := rx0.below (hb7.mono (by omega))
  have oW := oW.below hb7
  have ox0 := ox0.below hb7
  have HB := HB.trans (hb7.mono (by omega))
  have rg := og.read
  have zg : Rg.length ≤ (imG2 xs0 (rs0.map Row.xs)).length := Nat.le_of_eq (map_len1 eg)
  have yg : sizeR Rg ≤ sizeX (imG2 xs0 (rs0.map Row.xs)) := Nat.le_of_eq (map_size1 eg)
  have hb8 : Below w7.heap.size w7 ((w7.alloc (Obj.cells #[Value.slice Ag ((imG1 xs0 (rs0.map Row.xs))).length cg, Value.slice Bg Rg.length kg] 37))) := (Below.refl _ _).alloc (Nat.le_refl _) _
  have ob0q : ((w7.alloc (Obj.cells #[Value.slice Ag ((imG1 xs0 (rs0.map Row.xs))).length cg, Value.slice Bg Rg.length kg] 37))).heap[w.heap.size]? = some (Obj.cells #[Value.slice A0 xs0.length c0, Value.slice B0 rs0.length k0] 35) := obj_below ob0 hb8 (obj_lt ob0)
  have f00 : ((w7.alloc (Obj.cells #[Value.slice Ag ((imG1 xs0 (rs0.map Row.xs))).length cg, Value.slice Bg Rg.length kg] 37))).cell? ⟨w.heap.size, 0, none⟩ = some (Value.slice A0 xs0.length c0) := (obj_cell ob0q).trans rfl
  have f01 : ((w7.alloc (Obj.cells #[Value.slice Ag ((imG1 xs0 (rs0.map Row.xs))).length cg, Value.slice Bg Rg.length kg] 37))).cell? ⟨w.heap.size, 1, none⟩ = some (Value.slice B0 rs0.length k0) := (obj_cell ob0q).trans rfl
  clear ob0q
  have obWq : ((w7.alloc (Obj.cells #[Value.slice Ag ((imG1 xs0 (rs0.map Row.xs))).length cg, Value.slice Bg Rg.length kg] 37))).heap[w3.heap.size]? = some (Obj.cells #[Value.slice AW ((imG1 xs0 (rs0.map Row.xs))).length cW, Value.slice BW RW.length kW] 37) := obj_below obW hb8 (obj_lt obW)
  have fW0 : ((w7.alloc (Obj.cells #[Value.slice Ag ((imG1 xs0 (rs0.map Row.xs))).length cg, Value.slice Bg Rg.length kg] 37))).cell? ⟨w3.heap.size, 0, none⟩ = some (Value.slice AW ((imG1 xs0 (rs0.map Row.xs))).length cW) := (obj_cell obWq).trans rfl
  have fW1 : ((w7.alloc (Obj.cells #[Value.slice Ag ((imG1 xs0 (rs0.map Row.xs))).length cg, Value.slice Bg Rg.length kg] 37))).cell? ⟨w3.heap.size, 1, none⟩ = some (Value.slice BW RW.length kW) := (obj_cell obWq).trans rfl
  clear obWq
  have obx0q : ((w7.alloc (Obj.cells #[Value.slice Ag ((imG1 xs0 (rs0.map Row.xs))).length cg, Value.slice Bg Rg.length kg] 37))).heap[w5.heap.size]? = some (Obj.cells #[Value.slice Ax0 xs0.length cx0, Value.slice Bx0 Rx0.length kx0] 37) := obj_below obx0 hb8 (obj_lt obx0)
  have fx00 : ((w7.alloc (Obj.cells #[Value.slice Ag ((imG1 xs0 (rs0.map Row.xs))).length cg, Value.slice Bg Rg.length kg] 37))).cell? ⟨w5.heap.size, 0, none⟩ = some (Value.slice Ax0 xs0.length cx0) := (obj_cell obx0q).trans rfl
  have fx01 : ((w7.alloc (Obj.cells #[Value.slice Ag ((imG1 xs0 (rs0.map Row.xs))).length cg, Value.slice Bg Rg.length kg] 37))).cell? ⟨w5.heap.size, 1, none⟩ = some (Value.slice Bx0 Rx0.length kx0) := (obj_cell obx0q).trans rfl
  clear obx0q
  have obg : ((w7.alloc (Obj.cells #[Value.slice Ag ((imG1 xs0 (rs0.map Row.xs))).length cg, Value.slice Bg Rg.length kg] 37))).heap[w7.heap.size]? = some (Obj.cells #[Value.slice Ag ((imG1 xs0 (rs0.map Row.xs))).length cg, Value.slice Bg Rg.length kg] 37) := obj_new _ _
  have fg0 : ((w7.alloc (Obj.cells #[Value.slice Ag ((imG1 xs0 (rs0.map Row.xs))).length cg, Value.slice Bg Rg.length kg] 37))).cell? ⟨w7.heap.size, 0, none⟩ = some (Value.slice Ag ((imG1 xs0 (rs0.map Row.xs))).length cg) := (obj_cell obg).trans rfl
  have fg1 : ((w7.alloc (Obj.cells #[Value.slice Ag ((imG1 xs0 (rs0.map Row.xs))).length cg, Value.slice Bg Rg.length kg] 37))).cell? ⟨w7.heap.size, 1, none⟩ = some (Value.slice Bg Rg.length kg) := (obj_cell obg).trans rfl
  have hGl : (imG1 xs0 (rs0.map Row.xs)).length + ((imG2 xs0 (rs0.map Row.xs)).length + sizeX (imG2 xs0 (rs0.map Row.xs))) ≤ 1048576 := (imG_le _ _)
  go_wp2_with fail
  generalize (w7.alloc (Obj.cells #[Value.slice Ag ((imG1 xs0 (rs0.map Row.xs))).length cg, Value.slice Bg Rg.length kg] 37)) = w8 at hb8 f00 f01 fW0 fW1 fx00 fx01 obg fg0 fg1 ⊢
  have ltg := obj_lt obg
  have ob0 := obj_below ob0 hb8 (obj_lt ob0)
  have obW := obj_below obW hb8 (obj_lt obW)
  have obx0 := obj_below obx0 hb8 (obj_lt obx0)
  have f00 : (w8).cell? ⟨w.heap.size, 0, none⟩ = some (Value.slice A0 xs0.length c0) := (obj_cell ob0).trans rfl
  have f01 : (w8).cell? ⟨w.heap.size, 1, none⟩ = some (Value.slice B0 rs0.length k0) := (obj_cell ob0).trans rfl
  have fW0 : (w8).cell? ⟨w3.heap.size, 0, none⟩ = some (Value.slice AW ((imG1 xs0 (rs0.map Row.xs))).length cW) := (obj_cell obW).trans rfl
  have fW1 : (w8).cell? ⟨w3.heap.size, 1, none⟩ = some (Value.slice BW RW.length kW) := (obj_cell obW).trans rfl
  have fx00 : (w8).cell? ⟨w5.heap.size, 0, none⟩ = some (Value.slice Ax0 xs0.length cx0) := (obj_cell obx0).trans rfl
  have fx01 : (w8).cell? ⟨w5.heap.size, 1, none⟩ = some (Value.slice Bx0 Rx0.length kx0) := (obj_cell obx0).trans rfl
  have fg0 : (w8).cell? ⟨w7.heap.size, 0, none⟩ = some (Value.slice Ag ((imG1 xs0 (rs0.map Row.xs))).length cg) := (obj_cell obg).trans rfl
  have fg1 : (w8).cell? ⟨w7.heap.size, 1, none⟩ = some (Value.slice Bg Rg.length kg) := (obj_cell obg).trans rfl
  have sz10 : w7.heap.size ≤ w8.heap.size := hb8.size
  have r0 := r0.below (hb8.mono (by omega))
  have rW := rW.below (hb8.mono (by omega))
  have rx0 := rx0.below (hb8.mono (by omega))
  have rg := rg.below (hb8.mono (by omega))
  have oW := oW.below hb8
  have ox0 := ox0.below hb8
  have og := og.below hb8
  have HB := HB.trans (hb8.mono (by omega))
  (with_reducible refine (eqM_R Ag AW Bg BW cg cW kg kW (imG1 xs0 (rs0.map Row.xs)) Rg RW w8 (rg.toM (by omega) (by omega) (by omega)) (rW.toM (by omega) (by omega) (by omega)) (eg.trans eW.symm)).mono ?_)
  rintro e w9 ⟨rfl, hb9⟩
  have ob0 := obj_below ob0 hb9 (obj_lt ob0)
  have obW := obj_below obW hb9 (obj_lt obW)
  have obx0 := obj_below obx0 hb9 (obj_lt obx0)
  have obg := obj_below obg hb9 (obj_lt obg)
  have f00 : (w9).cell? ⟨w.heap.size, 0, none⟩ = some (Value.slice A0 xs0.length c0) := (obj_cell ob0).trans rfl
  have f01 : (w9).cell? ⟨w.heap.size, 1, none⟩ = some (Value.slice B0 rs0.length k0) := (obj_cell ob0).trans rfl
  have fW0 : (w9).cell? ⟨w3.heap.size, 0, none⟩ = some (Value.slice AW ((imG1 xs0 (rs0.map Row.xs))).length cW) := (obj_cell obW).trans rfl
  have fW1 : (w9).cell? ⟨w3.heap.size, 1, none⟩ = some (Value.slice BW RW.length kW) := (obj_cell obW).trans rfl
  have fx00 : (w9).cell? ⟨w5.heap.size, 0, none⟩ = some (Value.slice Ax0 xs0.length cx0) := (obj_cell obx0).trans rfl
  have fx01 : (w9).cell? ⟨w5.heap.size, 1, none⟩ = some (Value.slice Bx0 Rx0.length kx0) := (obj_cell obx0).trans rfl
  have fg0 : (w9).cell? ⟨w7.heap.size, 0, none⟩ = some (Value.slice Ag ((imG1 xs0 (rs0.map Row.xs))).length cg) := (obj_cell obg).trans rfl
  have fg1 : (w9).cell? ⟨w7.heap.size, 1, none⟩ = some (Value.slice Bg Rg.length kg) := (obj_cell obg).trans rfl
  have sz11 : w8.heap.size ≤ w9.heap.size := hb9.size
  have r0 := r0.below (hb9.mono (by omega))
  have rW := rW.below (hb9.mono (by omega))
  have rx0 := rx0.below (hb9.mono (by omega))
  have rg := rg.below (hb9.mono (by omega))
  have oW := oW.below hb9
  have ox0 := ox0.below hb9
  have og := og.below hb9
  have HB := HB.trans (hb9.mono (by omega))
  go_wp2_with fail
  have szd : w9.drew.heap.size = w9.heap.size := rfl
  have rd0 : Read w9.drew w9.heap.size (⟨A0, c0, xs0⟩ :: rs0) [⟨B0, k0, rs0.map Row.v⟩] := (r0.dr (Dr.refl _).drew).more (by omega)
  have rdx0 : Read w9.drew w9.heap.size (⟨Ax0, cx0, xs0⟩ :: Rx0) [⟨Bx0, kx0, Rx0.map Row.v⟩] := (rx0.dr (Dr.refl _).drew).more (by omega)
  have g00 : w9.drew.cell? ⟨w.heap.size, 0, none⟩ = some (Value.slice A0 xs0.length c0) := f00
  have g01 : w9.drew.cell? ⟨w.heap.size, 1, none⟩ = some (Value.slice B0 rs0.length k0) := f01
  have gx00 : w9.drew.cell? ⟨w5.heap.size, 0, none⟩ = some (Value.slice Ax0 xs0.length cx0) := fx00
  have gx01 : w9.drew.cell? ⟨w5.heap.size, 1, none⟩ = some (Value.slice Bx0 Rx0.length kx0) := fx01
  go_region_held3 (fun v => v.cell? ⟨w.heap.size, 0, none⟩ = some (Value.slice A0 xs0.length c0) ∧ v.cell? ⟨w.heap.size, 1, none⟩ = some (Value.slice B0 rs0.length k0) ∧ v.cell? ⟨w5.heap.size, 0, none⟩ = some (Value.slice Ax0 xs0.length cx0) ∧ v.cell? ⟨w5.heap.size, 1, none⟩ = some (Value.slice Bx0 Rx0.length kx0)) (first | exact ⟨g00, g01, gx00, gx01⟩ | exact ⟨h00, h01, hx00, hx01⟩ | exact ⟨q00, q01, qx00, qx01⟩) ((first | (go_at_call 19; (with_reducible refine (toM_R A0 B0 c0 k0 xs0 rs0 w9.drew (rd0.toM (by omega) (by omega) (by omega))).mono ?_); rintro e w10 ⟨Ay0, By0, cy0, ky0, Ry0, rfl, ey0, oy0, hb10⟩; have szk10 := hb10.size; have h00 : w10.cell? ⟨w.heap.size, 0, none⟩ = some (Value.slice A0 xs0.length c0) := (hb10.cell (obj_lt ob0)).trans g00; have h01 : w10.cell? ⟨w.heap.size, 1, none⟩ = some (Value.slice B0 rs0.length k0) := (hb10.cell (obj_lt ob0)).trans g01; have hx00 : w10.cell? ⟨w5.heap.size, 0, none⟩ = some (Value.slice Ax0 xs0.length cx0) := (hb10.cell (obj_lt obx0)).trans gx00; have hx01 : w10.cell? ⟨w5.heap.size, 1, none⟩ = some (Value.slice Bx0 Rx0.length kx0) := (hb10.cell (obj_lt obx0)).trans gx01; have rdx0 := rdx0.below (hb10.mono (by omega)); have rdy0 := oy0.read; have zy0 : Ry0.length ≤ rs0.length := Nat.le_of_eq (map_len ey0); have yy0 : sizeR Ry0 ≤ sizeR rs0 := Nat.le_of_eq (map_size ey0)) | (go_at_call 21; (with_reducible refine (eqM_R Ax0 Ay0 Bx0 By0 cx0 cy0 kx0 ky0 xs0 Rx0 Ry0 w10 (rdx0.toM (by omega) (by omega) (by omega)) (rdy0.toM (by omega) (by omega) (by omega)) (ex0.trans ey0.symm)).mono ?_); rintro e w11 ⟨rfl, hb11⟩; have q00 : w11.cell? ⟨w.heap.size, 0, none⟩ = some (Value.slice A0 xs0.length c0) := (hb11.cell (Nat.lt_of_lt_of_le (obj_lt ob0) szk10)).trans h00; have q01 : w11.cell? ⟨w.heap.size, 1, none⟩ = some (Value.slice B0 rs0.length k0) := (hb11.cell (Nat.lt_of_lt_of_le (obj_lt ob0) szk10)).trans h01; have qx00 : w11.cell? ⟨w5.heap.size, 0, none⟩ = some (Value.slice Ax0 xs0.length cx0) := (hb11.cell (Nat.lt_of_lt_of_le (obj_lt obx0) szk10)).trans hx00; have qx01 : w11.cell? ⟨w5.heap.size, 1, none⟩ = some (Value.slice Bx0 Rx0.length kx0) := (hb11.cell (Nat.lt_of_lt_of_le (obj_lt obx0) szk10)).trans hx01)))
  have hb10 : Below w9.heap.size w9 w10 := (below_dr (Below.refl _ _) (Dr.refl _).drew).trans hb10
  have ob0 := obj_below ob0 hb10 (obj_lt ob0)
  have obW := obj_below obW hb10 (obj_lt obW)
  have obx0 := obj_below obx0 hb10 (obj_lt obx0)
  have obg := obj_below obg hb10 (obj_lt obg)
  have f00 : (w10).cell? ⟨w.heap.size, 0, none⟩ = some (Value.slice A0 xs0.length c0) := (obj_cell ob0).trans rfl
  have f01 : (w10).cell? ⟨w.heap.size, 1, none⟩ = some (Value.slice B0 rs0.length k0) := (obj_cell ob0).trans rfl
  have fW0 : (w10).cell? ⟨w3.heap.size, 0, none⟩ = some (Value.slice AW ((imG1 xs0 (rs0.map Row.xs))).length cW) := (obj_cell obW).trans rfl
  have fW1 : (w10).cell? ⟨w3.heap.size, 1, none⟩ = some (Value.slice BW RW.length kW) := (obj_cell obW).trans rfl
  have fx00 : (w10).cell? ⟨w5.heap.size, 0, none⟩ = some (Value.slice Ax0 xs0.length cx0) := (obj_cell obx0).trans rfl
  have fx01 : (w10).cell? ⟨w5.heap.size, 1, none⟩ = some (Value.slice Bx0 Rx0.length kx0) := (obj_cell obx0).trans rfl
  have fg0 : (w10).cell? ⟨w7.heap.size, 0, none⟩ = some (Value.slice Ag ((imG1 xs0 (rs0.map Row.xs))).length cg) := (obj_cell obg).trans rfl
  have fg1 : (w10).cell? ⟨w7.heap.size, 1, none⟩ = some (Value.slice Bg Rg.length kg) := (obj_cell obg).trans rfl
  have sz12 : w9.heap.size ≤ w10.heap.size := hb10.size
  have r0 := r0.below (hb10.mono (by omega))
  have rW := rW.below (hb10.mono (by omega))
  have rx0 := rx0.below (hb10.mono (by omega))
  have rg := rg.below (hb10.mono (by omega))
  have oW := oW.below hb10
  have ox0 := ox0.below hb10
  have og := og.below hb10
  have HB := HB.trans (hb10.mono (by omega))
  have ob0 := obj_below ob0 hb11 (obj_lt ob0)
  have obW := obj_below obW hb11 (obj_lt obW)
  have obx0 := obj_below obx0 hb11 (obj_lt obx0)
  have obg := obj_below obg hb11 (obj_lt obg)
  have f00 : (w11).cell? ⟨w.heap.size, 0, none⟩ = some (Value.slice A0 xs0.length c0) := (obj_cell ob0).trans rfl
  have f01 : (w11).cell? ⟨w.heap.size, 1, none⟩ = some (Value.slice B0 rs0.length k0) := (obj_cell ob0).trans rfl
  have fW0 : (w11).cell? ⟨w3.heap.size, 0, none⟩ = some (Value.slice AW ((imG1 xs0 (rs0.map Row.xs))).length cW) := (obj_cell obW).trans rfl
  have fW1 : (w11).cell? ⟨w3.heap.size, 1, none⟩ = some (Value.slice BW RW.length kW) := (obj_cell obW).trans rfl
  have fx00 : (w11).cell? ⟨w5.heap.size, 0, none⟩ = some (Value.slice Ax0 xs0.length cx0) := (obj_cell obx0).trans rfl
  have fx01 : (w11).cell? ⟨w5.heap.size, 1, none⟩ = some (Value.slice Bx0 Rx0.length kx0) := (obj_cell obx0).trans rfl
  have fg0 : (w11).cell? ⟨w7.heap.size, 0, none⟩ = some (Value.slice Ag ((imG1 xs0 (rs0.map Row.xs))).length cg) := (obj_cell obg).trans rfl
  have fg1 : (w11).cell? ⟨w7.heap.size, 1, none⟩ = some (Value.slice Bg Rg.length kg) := (obj_cell obg).trans rfl
  have sz13 : w10.heap.size ≤ w11.heap.size := hb11.size
  have r0 := r0.below (hb11.mono (by omega))
  have rW := rW.below (hb11.mono (by omega))
  have rx0 := rx0.below (hb11.mono (by omega))
  have rg := rg.below (hb11.mono (by omega))
  have oW := oW.below hb11
  have ox0 := ox0.below hb11
  have og := og.below hb11
  have HB := HB.trans (hb11.mono (by omega))
  go_wp2_with fail
  (with_reducible refine (markM_R Ax0 Bx0 cx0 kx0 xs0 Rx0 _ _ (1) w11 (by omega) (by omega) (by omega) ox0).mono ?_)
  rintro e w12 ⟨rfl, om, sp12⟩
  have sz14 : w11.heap.size ≤ w12.heap.size := sp12.size
  have r0 := r0.span sp12 (by omega) (by omega)
  have rW := rW.span sp12 (by omega) (by omega)
  clear oW
  clear ox0 rx0
  have og := og.span sp12 (.inr (by omega))
  have rg := og.read
  have ox0 := om
  have rx0 := om.read
  clear om
  have HB := HB.trans (sp12.below (B := w.heap.size) (by omega) (by omega))
  have ob0 := (sp12.block _ (obj_lt ob0) (by omega)).trans ob0
  have obW := (sp12.block _ (obj_lt obW) (by omega)).trans obW
  have obx0 := (sp12.block _ (obj_lt obx0) (by omega)).trans obx0
  have obg := (sp12.block _ (obj_lt obg) (by omega)).trans obg
  have f00 : (w12).cell? ⟨w.heap.size, 0, none⟩ = some (Value.slice A0 xs0.length c0) := (obj_cell ob0).trans rfl
  have f01 : (w12).cell? ⟨w.heap.size, 1, none⟩ = some (Value.slice B0 rs0.length k0) := (obj_cell ob0).trans rfl
  have fW0 : (w12).cell? ⟨w3.heap.size, 0, none⟩ = some (Value.slice AW ((imG1 xs0 (rs0.map Row.xs))).length cW) := (obj_cell obW).trans rfl
  have fW1 : (w12).cell? ⟨w3.heap.size, 1, none⟩ = some (Value.slice BW RW.length kW) := (obj_cell obW).trans rfl
  have fx00 : (w12).cell? ⟨w5.heap.size, 0, none⟩ = some (Value.slice Ax0 xs0.length cx0) := (obj_cell obx0).trans rfl
  have fx01 : (w12).cell? ⟨w5.heap.size, 1, none⟩ = some (Value.slice Bx0 Rx0.length kx0) := (obj_cell obx0).trans rfl
  have fg0 : (w12).cell? ⟨w7.heap.size, 0, none⟩ = some (Value.slice Ag ((imG1 xs0 (rs0.map Row.xs))).length cg) := (obj_cell obg).trans rfl
  have fg1 : (w12).cell? ⟨w7.heap.size, 1, none⟩ = some (Value.slice Bg Rg.length kg) := (obj_cell obg).trans rfl
  go_wp2_with fail
  (with_reducible refine (eqM_R Ag AW Bg BW cg cW kg kW (imG1 xs0 (rs0.map Row.xs)) Rg RW w12 (rg.toM (by omega) (by omega) (by omega)) (rW.toM (by omega) (by omega) (by omega)) (eg.trans eW.symm)).mono ?_)
  rintro e w13 ⟨rfl, hb13⟩
  have ob0 := obj_below ob0 hb13 (obj_lt ob0)
  have obW := obj_below obW hb13 (obj_lt obW)
  have obx0 := obj_below obx0 hb13 (obj_lt obx0)
  have obg := obj_below obg hb13 (obj_lt obg)
  have f00 : (w13).cell? ⟨w.heap.size, 0, none⟩ = some (Value.slice A0 xs0.length c0) := (obj_cell ob0).trans rfl
  have f01 : (w13).cell? ⟨w.heap.size, 1, none⟩ = some (Value.slice B0 rs0.length k0) := (obj_cell ob0).trans rfl
  have fW0 : (w13).cell? ⟨w3.heap.size, 0, none⟩ = some (Value.slice AW ((imG1 xs0 (rs0.map Row.xs))).length cW) := (obj_cell obW).trans rfl
  have fW1 : (w13).cell? ⟨w3.heap.size, 1, none⟩ = some (Value.slice BW RW.length kW) := (obj_cell obW).trans rfl
  have fx00 : (w13).cell? ⟨w5.heap.size, 0, none⟩ = some (Value.slice Ax0 xs0.length cx0) := (obj_cell obx0).trans rfl
  have fx01 : (w13).cell? ⟨w5.heap.size, 1, none⟩ = some (Value.slice Bx0 Rx0.length kx0) := (obj_cell obx0).trans rfl
  have fg0 : (w13).cell? ⟨w7.heap.size, 0, none⟩ = some (Value.slice Ag ((imG1 xs0 (rs0.map Row.xs))).length cg) := (obj_cell obg).trans rfl
  have fg1 : (w13).cell? ⟨w7.heap.size, 1, none⟩ = some (Value.slice Bg Rg.length kg) := (obj_cell obg).trans rfl
  have sz15 : w12.heap.size ≤ w13.heap.size := hb13.size
  have r0 := r0.below (hb13.mono (by omega))
  have rW := rW.below (hb13.mono (by omega))
  have rg := rg.below (hb13.mono (by omega))
  have rx0 := rx0.below (hb13.mono (by omega))
  have og := og.below hb13
  have ox0 := ox0.below hb13
  have HB := HB.trans (hb13.mono (by omega))
  clear ox0 rx0
  go_wp2_with fail
  (with_reducible refine (markM_R Ag Bg cg kg (imG1 xs0 (rs0.map Row.xs)) Rg _ _ (1) w13 (by omega) (by omega) (by omega) og).mono ?_)
  rintro e w14 ⟨rfl, om, sp14⟩
  have sz16 : w13.heap.size ≤ w14.heap.size := sp14.size
  have r0 := r0.span sp14 (by omega) (by omega)
  have rW := rW.span sp14 (by omega) (by omega)
  clear og rg
  have og := om
  have rg := om.read
  clear om
  have HB := HB.trans (sp14.below (B := w.heap.size) (by omega) (by omega))
  have ob0 := (sp14.block _ (obj_lt ob0) (by omega)).trans ob0
  have obW := (sp14.block _ (obj_lt obW) (by omega)).trans obW
  have obx0 := (sp14.block _ (obj_lt obx0) (by omega)).trans obx0
  have obg := (sp14.block _ (obj_lt obg) (by omega)).trans obg
  have f00 : (w14).cell? ⟨w.heap.size, 0, none⟩ = some (Value.slice A0 xs0.length c0) := (obj_cell ob0).trans rfl
  have f01 : (w14).cell? ⟨w.heap.size, 1, none⟩ = some (Value.slice B0 rs0.length k0) := (obj_cell ob0).trans rfl
  have fW0 : (w14).cell? ⟨w3.heap.size, 0, none⟩ = some (Value.slice AW ((imG1 xs0 (rs0.map Row.xs))).length cW) := (obj_cell obW).trans rfl
  have fW1 : (w14).cell? ⟨w3.heap.size, 1, none⟩ = some (Value.slice BW RW.length kW) := (obj_cell obW).trans rfl
  have fx00 : (w14).cell? ⟨w5.heap.size, 0, none⟩ = some (Value.slice Ax0 xs0.length cx0) := (obj_cell obx0).trans rfl
  have fx01 : (w14).cell? ⟨w5.heap.size, 1, none⟩ = some (Value.slice Bx0 Rx0.length kx0) := (obj_cell obx0).trans rfl
  have fg0 : (w14).cell? ⟨w7.heap.size, 0, none⟩ = some (Value.slice Ag ((imG1 xs0 (rs0.map Row.xs))).length cg) := (obj_cell obg).trans rfl
  have fg1 : (w14).cell? ⟨w7.heap.size, 1, none⟩ = some (Value.slice Bg Rg.length kg) := (obj_cell obg).trans rfl
  go_wp2_with fail
  (with_reducible refine (heldM_R Ag Bg cg kg _ 1 (imG1 xs0 (rs0.map Row.xs)).length Rg w14 (by omega) (by omega) (by omega) rg).mono ?_)
  rintro e w15 ⟨rfl, hb15⟩
  have ob0 := obj_below ob0 hb15 (obj_lt ob0)
  have obW := obj_below obW hb15 (obj_lt obW)
  have obx0 := obj_below obx0 hb15 (obj_lt obx0)
  have obg := obj_below obg hb15 (obj_lt obg)
  have f00 : (w15).cell? ⟨w.heap.size, 0, none⟩ = some (Value.slice A0 xs0.length c0) := (obj_cell ob0).trans rfl
  have f01 : (w15).cell? ⟨w.heap.size, 1, none⟩ = some (Value.slice B0 rs0.length k0) := (obj_cell ob0).trans rfl
  have fW0 : (w15).cell? ⟨w3.heap.size, 0, none⟩ = some (Value.slice AW ((imG1 xs0 (rs0.map Row.xs))).length cW) := (obj_cell obW).trans rfl
  have fW1 : (w15).cell? ⟨w3.heap.size, 1, none⟩ = some (Value.slice BW RW.length kW) := (obj_cell obW).trans rfl
  have fx00 : (w15).cell? ⟨w5.heap.size, 0, none⟩ = some (Value.slice Ax0 xs0.length cx0) := (obj_cell obx0).trans rfl
  have fx01 : (w15).cell? ⟨w5.heap.size, 1, none⟩ = some (Value.slice Bx0 Rx0.length kx0) := (obj_cell obx0).trans rfl
  have fg0 : (w15).cell? ⟨w7.heap.size, 0, none⟩ = some (Value.slice Ag ((imG1 xs0 (rs0.map Row.xs))).length cg) := (obj_cell obg).trans rfl
  have fg1 : (w15).cell? ⟨w7.heap.size, 1, none⟩ = some (Value.slice Bg Rg.length kg) := (obj_cell obg).trans rfl
  have sz17 : w14.heap.size ≤ w15.heap.size := hb15.size
  have r0 := r0.below (hb15.mono (by omega))
  have rW := rW.below (hb15.mono (by omega))
  have rg := rg.below (hb15.mono (by omega))
  have og := og.below hb15
  have HB := HB.trans (hb15.mono (by omega))
  go_wp2_with fail
  (with_reducible refine (toM_R A0 B0 c0 k0 xs0 rs0 w15 (r0.toM (by omega) (by omega) (by omega))).mono ?_)
  rintro e w16 ⟨Az0, Bz0, cz0, kz0, Rz0, rfl, ez0, oz0, hb16⟩
  have ob0 := obj_below ob0 hb16 (obj_lt ob0)
  have obW := obj_below obW hb16 (obj_lt obW)
  have obx0 := obj_below obx0 hb16 (obj_lt obx0)
  have obg := obj_below obg hb16 (obj_lt obg)
  have f00 : (w16).cell? ⟨w.heap.size, 0, none⟩ = some (Value.slice A0 xs0.length c0) := (obj_cell ob0).trans rfl
  have f01 : (w16).cell? ⟨w.heap.size, 1, none⟩ = some (Value.slice B0 rs0.length k0) := (obj_cell ob0).trans rfl
  have fW0 : (w16).cell? ⟨w3.heap.size, 0, none⟩ = some (Value.slice AW ((imG1 xs0 (rs0.map Row.xs))).length cW) := (obj_cell obW).trans rfl
  have fW1 : (w16).cell? ⟨w3.heap.size, 1, none⟩ = some (Value.slice BW RW.length kW) := (obj_cell obW).trans rfl
  have fx00 : (w16).cell? ⟨w5.heap.size, 0, none⟩ = some (Value.slice Ax0 xs0.length cx0) := (obj_cell obx0).trans rfl
  have fx01 : (w16).cell? ⟨w5.heap.size, 1, none⟩ = some (Value.slice Bx0 Rx0.length kx0) := (obj_cell obx0).trans rfl
  have fg0 : (w16).cell? ⟨w7.heap.size, 0, none⟩ = some (Value.slice Ag ((imG1 xs0 (rs0.map Row.xs))).length cg) := (obj_cell obg).trans rfl
  have fg1 : (w16).cell? ⟨w7.heap.size, 1, none⟩ = some (Value.slice Bg Rg.length kg) := (obj_cell obg).trans rfl
  have sz18 : w15.heap.size ≤ w16.heap.size := hb16.size
  have r0 := r0.below (hb16.mono (by omega))
  have rW := rW.below (hb16.mono (by omega))
  have rg := rg.below (hb16.mono (by omega))
  have og := og.below hb16
  have HB := HB.trans (hb16.mono (by omega))
  have rz0 := oz0.read
  have zz0 : Rz0.length ≤ rs0.length := Nat.le_of_eq (map_len ez0)
  have yz0 : sizeR Rz0 ≤ sizeR rs0 := Nat.le_of_eq (map_size ez0)
  go_wp2_with fail
  have ct := inverseMesh_impl Az0 Bz0 cz0 kz0 xs0 Rz0 w16 (rz0.toM (by omega) (by omega) (by omega))
  try rw [ez0] at ct
  (with_reducible refine ct.mono ?_)
  clear ct
  rintro e w17 ⟨Ah, Bh, ch, kh, Rh, rfl, eh, oh, hb17⟩
  have ob0 := obj_below ob0 hb17 (obj_lt ob0)
  have obW := obj_below obW hb17 (obj_lt obW)
  have obx0 := obj_below obx0 hb17 (obj_lt obx0)
  have obg := obj_below obg hb17 (obj_lt obg)
  have f00 : (w17).cell? ⟨w.heap.size, 0, none⟩ = some (Value.slice A0 xs0.length c0) := (obj_cell ob0).trans rfl
  have f01 : (w17).cell? ⟨w.heap.size, 1, none⟩ = some (Value.slice B0 rs0.length k0) := (obj_cell ob0).trans rfl
  have fW0 : (w17).cell? ⟨w3.heap.size, 0, none⟩ = some (Value.slice AW ((imG1 xs0 (rs0.map Row.xs))).length cW) := (obj_cell obW).trans rfl
  have fW1 : (w17).cell? ⟨w3.heap.size, 1, none⟩ = some (Value.slice BW RW.length kW) := (obj_cell obW).trans rfl
  have fx00 : (w17).cell? ⟨w5.heap.size, 0, none⟩ = some (Value.slice Ax0 xs0.length cx0) := (obj_cell obx0).trans rfl
  have fx01 : (w17).cell? ⟨w5.heap.size, 1, none⟩ = some (Value.slice Bx0 Rx0.length kx0) := (obj_cell obx0).trans rfl
  have fg0 : (w17).cell? ⟨w7.heap.size, 0, none⟩ = some (Value.slice Ag ((imG1 xs0 (rs0.map Row.xs))).length cg) := (obj_cell obg).trans rfl
  have fg1 : (w17).cell? ⟨w7.heap.size, 1, none⟩ = some (Value.slice Bg Rg.length kg) := (obj_cell obg).trans rfl
  have sz19 : w16.heap.size ≤ w17.heap.size := hb17.size
  have r0 := r0.below (hb17.mono (by omega))
  have rW := rW.below (hb17.mono (by omega))
  have rg := rg.below (hb17.mono (by omega))
  have rz0 := rz0.below (hb17.mono (by omega))
  have og := og.below hb17
  have oz0 := oz0.below hb17
  have HB := HB.trans (hb17.mono (by omega))
  have rh := oh.read
  have zh : Rh.length ≤ (imG2 xs0 (rs0.map Row.xs)).length := Nat.le_of_eq (map_len1 eh)
  have yh : sizeR Rh ≤ sizeX (imG2 xs0 (rs0.map Row.xs)) := Nat.le_of_eq (map_size1 eh)
  have hb18 : Below w17.heap.size w17 ((w17.alloc (Obj.cells #[Value.slice Ah ((imG1 xs0 (rs0.map Row.xs))).length ch, Value.slice Bh Rh.length kh] 37))) := (Below.refl _ _).alloc (Nat.le_refl _) _
  have ob0q : ((w17.alloc (Obj.cells #[Value.slice Ah ((imG1 xs0 (rs0.map Row.xs))).length ch, Value.slice Bh Rh.length kh] 37))).heap[w.heap.size]? = some (Obj.cells #[Value.slice A0 xs0.length c0, Value.slice B0 rs0.length k0] 35) := obj_below ob0 hb18 (obj_lt ob0)
  have f00 : ((w17.alloc (Obj.cells #[Value.slice Ah ((imG1 xs0 (rs0.map Row.xs))).length ch, Value.slice Bh Rh.length kh] 37))).cell? ⟨w.heap.size, 0, none⟩ = some (Value.slice A0 xs0.length c0) := (obj_cell ob0q).trans rfl
  have f01 : ((w17.alloc (Obj.cells #[Value.slice Ah ((imG1 xs0 (rs0.map Row.xs))).length ch, Value.slice Bh Rh.length kh] 37))).cell? ⟨w.heap.size, 1, none⟩ = some (Value.slice B0 rs0.length k0) := (obj_cell ob0q).trans rfl
  clear ob0q
  have obWq : ((w17.alloc (Obj.cells #[Value.slice Ah ((imG1 xs0 (rs0.map Row.xs))).length ch, Value.slice Bh Rh.length kh] 37))).heap[w3.heap.size]? = some (Obj.cells #[Value.slice AW ((imG1 xs0 (rs0.map Row.xs))).length cW, Value.slice BW RW.length kW] 37) := obj_below obW hb18 (obj_lt obW)
  have fW0 : ((w17.alloc (Obj.cells #[Value.slice Ah ((imG1 xs0 (rs0.map Row.xs))).length ch, Value.slice Bh Rh.length kh] 37))).cell? ⟨w3.heap.size, 0, none⟩ = some (Value.slice AW ((imG1 xs0 (rs0.map Row.xs))).length cW) := (obj_cell obWq).trans rfl
  have fW1 : ((w17.alloc (Obj.cells #[Value.slice Ah ((imG1 xs0 (rs0.map Row.xs))).length ch, Value.slice Bh Rh.length kh] 37))).cell? ⟨w3.heap.size, 1, none⟩ = some (Value.slice BW RW.length kW) := (obj_cell obWq).trans rfl
  clear obWq
  have obx0q : ((w17.alloc (Obj.cells #[Value.slice Ah ((imG1 xs0 (rs0.map Row.xs))).length ch, Value.slice Bh Rh.length kh] 37))).heap[w5.heap.size]? = some (Obj.cells #[Value.slice Ax0 xs0.length cx0, Value.slice Bx0 Rx0.length kx0] 37) := obj_below obx0 hb18 (obj_lt obx0)
  have fx00 : ((w17.alloc (Obj.cells #[Value.slice Ah ((imG1 xs0 (rs0.map Row.xs))).length ch, Value.slice Bh Rh.length kh] 37))).cell? ⟨w5.heap.size, 0, none⟩ = some (Value.slice Ax0 xs0.length cx0) := (obj_cell obx0q).trans rfl
  have fx01 : ((w17.alloc (Obj.cells #[Value.slice Ah ((imG1 xs0 (rs0.map Row.xs))).length ch, Value.slice Bh Rh.length kh] 37))).cell? ⟨w5.heap.size, 1, none⟩ = some (Value.slice Bx0 Rx0.length kx0) := (obj_cell obx0q).trans rfl
  clear obx0q
  have obgq : ((w17.alloc (Obj.cells #[Value.slice Ah ((imG1 xs0 (rs0.map Row.xs))).length ch, Value.slice Bh Rh.length kh] 37))).heap[w7.heap.size]? = some (Obj.cells #[Value.slice Ag ((imG1 xs0 (rs0.map Row.xs))).length cg, Value.slice Bg Rg.length kg] 37) := obj_below obg hb18 (obj_lt obg)
  have fg0 : ((w17.alloc (Obj.cells #[Value.slice Ah ((imG1 xs0 (rs0.map Row.xs))).length ch, Value.slice Bh Rh.length kh] 37))).cell? ⟨w7.heap.size, 0, none⟩ = some (Value.slice Ag ((imG1 xs0 (rs0.map Row.xs))).length cg) := (obj_cell obgq).trans rfl
  have fg1 : ((w17.alloc (Obj.cells #[Value.slice Ah ((imG1 xs0 (rs0.map Row.xs))).length ch, Value.slice Bh Rh.length kh] 37))).cell? ⟨w7.heap.size, 1, none⟩ = some (Value.slice Bg Rg.length kg) := (obj_cell obgq).trans rfl
  clear obgq
  have obh : ((w17.alloc (Obj.cells #[Value.slice Ah ((imG1 xs0 (rs0.map Row.xs))).length ch, Value.slice Bh Rh.length kh] 37))).heap[w17.heap.size]? = some (Obj.cells #[Value.slice Ah ((imG1 xs0 (rs0.map Row.xs))).length ch, Value.slice Bh Rh.length kh] 37) := obj_new _ _
  have fh0 : ((w17.alloc (Obj.cells #[Value.slice Ah ((imG1 xs0 (rs0.map Row.xs))).length ch, Value.slice Bh Rh.length kh] 37))).cell? ⟨w17.heap.size, 0, none⟩ = some (Value.slice Ah ((imG1 xs0 (rs0.map Row.xs))).length ch) := (obj_cell obh).trans rfl
  have fh1 : ((w17.alloc (Obj.cells #[Value.slice Ah ((imG1 xs0 (rs0.map Row.xs))).length ch, Value.slice Bh Rh.length kh] 37))).cell? ⟨w17.heap.size, 1, none⟩ = some (Value.slice Bh Rh.length kh) := (obj_cell obh).trans rfl
  go_wp2_with fail
  generalize (w17.alloc (Obj.cells #[Value.slice Ah ((imG1 xs0 (rs0.map Row.xs))).length ch, Value.slice Bh Rh.length kh] 37)) = w18 at hb18 f00 f01 fW0 fW1 fx00 fx01 fg0 fg1 obh fh0 fh1 ⊢
  have lth := obj_lt obh
  have ob0 := obj_below ob0 hb18 (obj_lt ob0)
  have obW := obj_below obW hb18 (obj_lt obW)
  have obx0 := obj_below obx0 hb18 (obj_lt obx0)
  have obg := obj_below obg hb18 (obj_lt obg)
  have f00 : (w18).cell? ⟨w.heap.size, 0, none⟩ = some (Value.slice A0 xs0.length c0) := (obj_cell ob0).trans rfl
  have f01 : (w18).cell? ⟨w.heap.size, 1, none⟩ = some (Value.slice B0 rs0.length k0) := (obj_cell ob0).trans rfl
  have fW0 : (w18).cell? ⟨w3.heap.size, 0, none⟩ = some (Value.slice AW ((imG1 xs0 (rs0.map Row.xs))).length cW) := (obj_cell obW).trans rfl
  have fW1 : (w18).cell? ⟨w3.heap.size, 1, none⟩ = some (Value.slice BW RW.length kW) := (obj_cell obW).trans rfl
  have fx00 : (w18).cell? ⟨w5.heap.size, 0, none⟩ = some (Value.slice Ax0 xs0.length cx0) := (obj_cell obx0).trans rfl
  have fx01 : (w18).cell? ⟨w5.heap.size, 1, none⟩ = some (Value.slice Bx0 Rx0.length kx0) := (obj_cell obx0).trans rfl
  have fg0 : (w18).cell? ⟨w7.heap.size, 0, none⟩ = some (Value.slice Ag ((imG1 xs0 (rs0.map Row.xs))).length cg) := (obj_cell obg).trans rfl
  have fg1 : (w18).cell? ⟨w7.heap.size, 1, none⟩ = some (Value.slice Bg Rg.length kg) := (obj_cell obg).trans rfl
  have fh0 : (w18).cell? ⟨w17.heap.size, 0, none⟩ = some (Value.slice Ah ((imG1 xs0 (rs0.map Row.xs))).length ch) := (obj_cell obh).trans rfl
  have fh1 : (w18).cell? ⟨w17.heap.size, 1, none⟩ = some (Value.slice Bh Rh.length kh) := (obj_cell obh).trans rfl
  have sz20 : w17.heap.size ≤ w18.heap.size := hb18.size
  have r0 := r0.below (hb18.mono (by omega))
  have rW := rW.below (hb18.mono (by omega))
  have rg := rg.below (hb18.mono (by omega))
  have rz0 := rz0.below (hb18.mono (by omega))
  have rh := rh.below (hb18.mono (by omega))
  have og := og.below hb18
  have oz0 := oz0.below hb18
  have oh := oh.below hb18
  have HB := HB.trans (hb18.mono (by omega))
  (with_reducible refine (eqM_R Ah AW Bh BW ch cW kh kW (imG1 xs0 (rs0.map Row.xs)) Rh RW w18 (rh.toM (by omega) (by omega) (by omega)) (rW.toM (by omega) (by omega) (by omega)) (eh.trans eW.symm)).mono ?_)
  rintro e w19 ⟨rfl, hb19⟩
  have ob0 := obj_below ob0 hb19 (obj_lt ob0)
  have obW := obj_below obW hb19 (obj_lt obW)
  have obx0 := obj_below obx0 hb19 (obj_lt obx0)
  have obg := obj_below obg hb19 (obj_lt obg)
  have obh := obj_below obh hb19 (obj_lt obh)
  have f00 : (w19).cell? ⟨w.heap.size, 0, none⟩ = some (Value.slice A0 xs0.length c0) := (obj_cell ob0).trans rfl
  have f01 : (w19).cell? ⟨w.heap.size, 1, none⟩ = some (Value.slice B0 rs0.length k0) := (obj_cell ob0).trans rfl
  have fW0 : (w19).cell? ⟨w3.heap.size, 0, none⟩ = some (Value.slice AW ((imG1 xs0 (rs0.map Row.xs))).length cW) := (obj_cell obW).trans rfl
  have fW1 : (w19).cell? ⟨w3.heap.size, 1, none⟩ = some (Value.slice BW RW.length kW) := (obj_cell obW).trans rfl
  have fx00 : (w19).cell? ⟨w5.heap.size, 0, none⟩ = some (Value.slice Ax0 xs0.length cx0) := (obj_cell obx0).trans rfl
  have fx01 : (w19).cell? ⟨w5.heap.size, 1, none⟩ = some (Value.slice Bx0 Rx0.length kx0) := (obj_cell obx0).trans rfl
  have fg0 : (w19).cell? ⟨w7.heap.size, 0, none⟩ = some (Value.slice Ag ((imG1 xs0 (rs0.map Row.xs))).length cg) := (obj_cell obg).trans rfl
  have fg1 : (w19).cell? ⟨w7.heap.size, 1, none⟩ = some (Value.slice Bg Rg.length kg) := (obj_cell obg).trans rfl
  have fh0 : (w19).cell? ⟨w17.heap.size, 0, none⟩ = some (Value.slice Ah ((imG1 xs0 (rs0.map Row.xs))).length ch) := (obj_cell obh).trans rfl
  have fh1 : (w19).cell? ⟨w17.heap.size, 1, none⟩ = some (Value.slice Bh Rh.length kh) := (obj_cell obh).trans rfl
  have sz21 : w18.heap.size ≤ w19.heap.size := hb19.size
  have r0 := r0.below (hb19.mono (by omega))
  have rW := rW.below (hb19.mono (by omega))
  have rg := rg.below (hb19.mono (by omega))
  have rz0 := rz0.below (hb19.mono (by omega))
  have rh := rh.below (hb19.mono (by omega))
  have og := og.below hb19
  have oz0 := oz0.below hb19
  have oh := oh.below hb19
  have HB := HB.trans (hb19.mono (by omega))
  go_wp2_with fail
  (with_reducible refine (heldM_R Ag Bg cg kg _ 1 (imG1 xs0 (rs0.map Row.xs)).length Rg w19 (by omega) (by omega) (by omega) rg).mono ?_)
  rintro e w20 ⟨rfl, hb20⟩
  have ob0 := obj_below ob0 hb20 (obj_lt ob0)
  have obW := obj_below obW hb20 (obj_lt obW)
  have obx0 := obj_below obx0 hb20 (obj_lt obx0)
  have obg := obj_below obg hb20 (obj_lt obg)
  have obh := obj_below obh hb20 (obj_lt obh)
  have f00 : (w20).cell? ⟨w.heap.size, 0, none⟩ = some (Value.slice A0 xs0.length c0) := (obj_cell ob0).trans rfl
  have f01 : (w20).cell? ⟨w.heap.size, 1, none⟩ = some (Value.slice B0 rs0.length k0) := (obj_cell ob0).trans rfl
  have fW0 : (w20).cell? ⟨w3.heap.size, 0, none⟩ = some (Value.slice AW ((imG1 xs0 (rs0.map Row.xs))).length cW) := (obj_cell obW).trans rfl
  have fW1 : (w20).cell? ⟨w3.heap.size, 1, none⟩ = some (Value.slice BW RW.length kW) := (obj_cell obW).trans rfl
  have fx00 : (w20).cell? ⟨w5.heap.size, 0, none⟩ = some (Value.slice Ax0 xs0.length cx0) := (obj_cell obx0).trans rfl
  have fx01 : (w20).cell? ⟨w5.heap.size, 1, none⟩ = some (Value.slice Bx0 Rx0.length kx0) := (obj_cell obx0).trans rfl
  have fg0 : (w20).cell? ⟨w7.heap.size, 0, none⟩ = some (Value.slice Ag ((imG1 xs0 (rs0.map Row.xs))).length cg) := (obj_cell obg).trans rfl
  have fg1 : (w20).cell? ⟨w7.heap.size, 1, none⟩ = some (Value.slice Bg Rg.length kg) := (obj_cell obg).trans rfl
  have fh0 : (w20).cell? ⟨w17.heap.size, 0, none⟩ = some (Value.slice Ah ((imG1 xs0 (rs0.map Row.xs))).length ch) := (obj_cell obh).trans rfl
  have fh1 : (w20).cell? ⟨w17.heap.size, 1, none⟩ = some (Value.slice Bh Rh.length kh) := (obj_cell obh).trans rfl
  have sz22 : w19.heap.size ≤ w20.heap.size := hb20.size
  have r0 := r0.below (hb20.mono (by omega))
  have rW := rW.below (hb20.mono (by omega))
  have rg := rg.below (hb20.mono (by omega))
  have rz0 := rz0.below (hb20.mono (by omega))
  have rh := rh.below (hb20.mono (by omega))
  have og := og.below hb20
  have oz0 := oz0.below hb20
  have oh := oh.below hb20
  have HB := HB.trans (hb20.mono (by omega))
  go_wp2_with fail
  go_ret
  exact ⟨rfl, HB⟩
end Go.Proofs.Ythkggnmfdlggbaa
