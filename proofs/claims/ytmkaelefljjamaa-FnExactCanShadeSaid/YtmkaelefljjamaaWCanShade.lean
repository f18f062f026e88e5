/- The walk of FnExactCanShade: every call by its contract. -/
import Derived.Test.YtmkaelefljjamaaCS2
import Derived.Test.YtmkaelefljjamaaR2
import Derived.Deep.RegionHeld3
namespace Go.Proofs.Ytmkaelefljjamaa
set_option maxRecDepth 100000
open Go Go.RowKit

set_option maxHeartbeats 2000000 in
set_option maxRecDepth 100000 in
theorem walk_FnExactCanShade (w : World) (A0 B0 : Option Addr) (c0 k0 : Nat) (xs0 : List Int) (rs0 : List Row) (ar0 : Arg w (⟨A0, c0, xs0⟩ :: rs0) [⟨B0, k0, rs0.map Row.v⟩]) (a1 : Int) (wb1 : -9223372036854775808 ≤ a1 ∧ a1 ≤ 9223372036854775807) (a2 : Int) (wb2 : -9223372036854775808 ≤ a2 ∧ a2 ≤ 9223372036854775807) :
    Calls Try.prog 13 #[.agg #[.slice A0 xs0.length c0, .slice B0 rs0.length k0], .int .i64 a1, .int .i64 a2] w (Rb w (.bool true)) := by
  have _hq0 := Nat.zero_le (xs0.length + (rs0.length + sizeR rs0))
  rcases Nat.lt_or_ge 1048576 ((xs0.length + (rs0.length + sizeR rs0))) with hbig | hz0
  · go_enter Try.func13, Try.ntmps13
    go_wp2_with fail
    have HB : Below w.heap.size w (w.alloc (Obj.cells #[Value.slice A0 xs0.length c0, Value.slice B0 rs0.length k0] 48)) := (Below.refl _ _).alloc (Nat.le_refl _) _
    have ob0 := obj_new w (Obj.cells #[Value.slice A0 xs0.length c0, Value.slice B0 rs0.length k0] 48)
    have szb : (w.alloc (Obj.cells #[Value.slice A0 xs0.length c0, Value.slice B0 rs0.length k0] 48)).heap.size = w.heap.size + 1 := by simp
    generalize (w.alloc (Obj.cells #[Value.slice A0 xs0.length c0, Value.slice B0 rs0.length k0] 48)) = wb at HB ob0 szb ⊢
    have f00 : (wb).cell? ⟨w.heap.size, 0, none⟩ = some (Value.slice A0 xs0.length c0) := (obj_cell ob0).trans rfl
    have f01 : (wb).cell? ⟨w.heap.size, 1, none⟩ = some (Value.slice B0 rs0.length k0) := (obj_cell ob0).trans rfl
    (with_reducible refine (szM_no A0 B0 c0 k0 xs0 rs0 (1048576) wb (ar0.below HB) (by omega) (by omega)).mono ?_)
    rintro e v0 ⟨rfl, hb0⟩
    have HB := HB.trans (hb0.mono HB.size)
    have ob0 := obj_below ob0 hb0 (obj_lt ob0)
    have f00 : (v0).cell? ⟨w.heap.size, 0, none⟩ = some (Value.slice A0 xs0.length c0) := (obj_cell ob0).trans rfl
    have f01 : (v0).cell? ⟨w.heap.size, 1, none⟩ = some (Value.slice B0 rs0.length k0) := (obj_cell ob0).trans rfl
    go_wp2
    go_ret
    exact ⟨rfl, HB⟩
  go_enter Try.func13, Try.ntmps13
  have r0 := ar0.read
  go_wp2_with fail
  have HB : Below w.heap.size w (w.alloc (Obj.cells #[Value.slice A0 xs0.length c0, Value.slice B0 rs0.length k0] 48)) := (Below.refl _ _).alloc (Nat.le_refl _) _
  have ob0 := obj_new w (Obj.cells #[Value.slice A0 xs0.length c0, Value.slice B0 rs0.length k0] 48)
  have szb : (w.alloc (Obj.cells #[Value.slice A0 xs0.length c0, Value.slice B0 rs0.length k0] 48)).heap.size = w.heap.size + 1 := by simp
  generalize (w.alloc (Obj.cells #[Value.slice A0 xs0.length c0, Value.slice B0 rs0.length k0] 48)) = wb at HB ob0 szb ⊢
  have f00 : (wb).cell? ⟨w.heap.size, 0, none⟩ = some (Value.slice A0 xs0.length c0) := (obj_cell ob0).trans rfl
  have f01 : (wb).cell? ⟨w.heap.size, 1, none⟩ = some (Value.slice B0 rs0.length k0) := (obj_cell ob0).trans rfl
  have sz1 : w.heap.size ≤ wb.heap.size := by omega
  have r0 := r0.below HB
  (with_reducible refine (szM_ok A0 B0 c0 k0 xs0 rs0 (1048576) wb (ar0.below HB) (by omega) (by omega)).mono ?_)
  rintro e w1 ⟨rfl, hb1⟩
  have ob0 := obj_below ob0 hb1 (obj_lt ob0)
  have f00 : (w1).cell? ⟨w.heap.size, 0, none⟩ = some (Value.slice A0 xs0.length c0) := (obj_cell ob0).trans rfl
  have f01 : (w1).cell? ⟨w.heap.size, 1, none⟩ = some (Value.slice B0 rs0.length k0) := (obj_cell ob0).trans rfl
  have sz3 : wb.heap.size ≤ w1.heap.size := hb1.size
  have r0 := r0.below (hb1.mono (by omega))
  have HB := HB.trans (hb1.mono (by omega))
  go_wp2_with fail
  (with_reducible refine (toM_R A0 B0 c0 k0 xs0 rs0 w1 (r0.toM (by omega) (by omega) (by omega))).mono ?_)
  rintro e w2 ⟨Ap0, Bp0, cp0, kp0, Rp0, rfl, ep0, op0, hb2⟩
  have ob0 := obj_below ob0 hb2 (obj_lt ob0)
  have f00 : (w2).cell? ⟨w.heap.size, 0, none⟩ = some (Value.slice A0 xs0.length c0) := (obj_cell ob0).trans rfl
  have f01 : (w2).cell? ⟨w.heap.size, 1, none⟩ = some (Value.slice B0 rs0.length k0) := (obj_cell ob0).trans rfl
  have sz4 : w1.heap.size ≤ w2.heap.size := hb2.size
  have r0 := r0.below (hb2.mono (by omega))
  have HB := HB.trans (hb2.mono (by omega))
  have rp0 := op0.read
  have zp0 : Rp0.length ≤ rs0.length := Nat.le_of_eq (map_len ep0)
  have yp0 : sizeR Rp0 ≤ sizeR rs0 := Nat.le_of_eq (map_size ep0)
  go_wp2_with fail
  have ct := canShade_spec Ap0 Bp0 cp0 kp0 xs0 Rp0 a1 wb1 a2 wb2 w2 (rp0.toM (by omega) (by omega) (by omega))
  try rw [ep0] at ct
  (with_reducible refine ct.mono ?_)
  clear ct
  rintro e w3 ⟨rfl, hb3⟩
  have ob0 := obj_below ob0 hb3 (obj_lt ob0)
  have f00 : (w3).cell? ⟨w.heap.size, 0, none⟩ = some (Value.slice A0 xs0.length c0) := (obj_cell ob0).trans rfl
  have f01 : (w3).cell? ⟨w.heap.size, 1, none⟩ = some (Value.slice B0 rs0.length k0) := (obj_cell ob0).trans rfl
  have sz5 : w2.heap.size ≤ w3.heap.size := hb3.size
  have r0 := r0.below (hb3.mono (by omega))
  have rp0 := rp0.below (hb3.mono (by omega))
  have op0 := op0.below hb3
  have HB := HB.trans (hb3.mono (by omega))
  clear op0 rp0
  go_wp2_with fail
  (with_reducible refine (toM_R A0 B0 c0 k0 xs0 rs0 w3 (r0.toM (by omega) (by omega) (by omega))).mono ?_)
  rintro e w4 ⟨Ax0, Bx0, cx0, kx0, Rx0, rfl, ex0, ox0, hb4⟩
  have ob0 := obj_below ob0 hb4 (obj_lt ob0)
  have f00 : (w4).cell? ⟨w.heap.size, 0, none⟩ = some (Value.slice A0 xs0.length c0) := (obj_cell ob0).trans rfl
  have f01 : (w4).cell? ⟨w.heap.size, 1, none⟩ = some (Value.slice B0 rs0.length k0) := (obj_cell ob0).trans rfl
  have sz6 : w3.heap.size ≤ w4.heap.size := hb4.size
  have r0 := r0.below (hb4.mono (by omega))
  have HB := HB.trans (hb4.mono (by omega))
  have rx0 := ox0.read
  have zx0 : Rx0.length ≤ rs0.length := Nat.le_of_eq (map_len ex0)
  have yx0 : sizeR Rx0 ≤ sizeR rs0 := Nat.le_of_eq (map_size ex0)
  have hb5 : Below w4.heap.size w4 ((w4.alloc (Obj.cells #[Value.slice Ax0 xs0.length cx0, Value.slice Bx0 Rx0.length kx0] 51))) := (Below.refl _ _).alloc (Nat.le_refl _) _
  have ob0q : ((w4.alloc (Obj.cells #[Value.slice Ax0 xs0.length cx0, Value.slice Bx0 Rx0.length kx0] 51))).heap[w.heap.size]? = some (Obj.cells #[Value.slice A0 xs0.length c0, Value.slice B0 rs0.length k0] 48) := obj_below ob0 hb5 (obj_lt ob0)
  have f00 : ((w4.alloc (Obj.cells #[Value.slice Ax0 xs0.length cx0, Value.slice Bx0 Rx0.length kx0] 51))).cell? ⟨w.heap.size, 0, none⟩ = some (Value.slice A0 xs0.length c0) := (obj_cell ob0q).trans rfl
  have f01 : ((w4.alloc (Obj.cells #[Value.slice Ax0 xs0.length cx0, Value.slice Bx0 Rx0.length kx0] 51))).cell? ⟨w.heap.size, 1, none⟩ = some (Value.slice B0 rs0.length k0) := (obj_cell ob0q).trans rfl
  clear ob0q
  have obx0 : ((w4.alloc (Obj.cells #[Value.slice Ax0 xs0.length cx0, Value.slice Bx0 Rx0.length kx0] 51))).heap[w4.heap.size]? = some (Obj.cells #[Value.slice Ax0 xs0.length cx0, Value.slice Bx0 Rx0.length kx0] 51) := obj_new _ _
  have fx00 : ((w4.alloc (Obj.cells #[Value.slice Ax0 xs0.length cx0, Value.slice Bx0 Rx0.length kx0] 51))).cell? ⟨w4.heap.size, 0, none⟩ = some (Value.slice Ax0 xs0.length cx0) := (obj_cell obx0).trans rfl
  have fx01 : ((w4.alloc (Obj.cells #[Value.slice Ax0 xs0.length cx0, Value.slice Bx0 Rx0.length kx0] 51))).cell? ⟨w4.heap.size, 1, none⟩ = some (Value.slice Bx0 Rx0.length kx0) := (obj_cell obx0).trans rfl
  go_wp2_with fail
  generalize (w4.alloc (Obj.cells #[Value.slice Ax0 xs0.length cx0, Value.slice Bx0 Rx0.length kx0] 51)) = w5 at hb5 f00 f01 obx0 fx00 fx01 ⊢
  have ltx0 := obj_lt obx0
  have ob0 := obj_below ob0 hb5 (obj_lt ob0)
  have f00 : (w5).cell? ⟨w.heap.size, 0, none⟩ = some (Value.slice A0 xs0.length c0) := (obj_cell ob0).trans rfl
  have f01 : (w5).cell? ⟨w.heap.size, 1, none⟩ = some (Value.slice B0 rs0.length k0) := (obj_cell ob0).trans rfl
  have fx00 : (w5).cell? ⟨w4.heap.size, 0, none⟩ = some (Value.slice Ax0 xs0.length cx0) := (obj_cell obx0).trans rfl
  have fx01 : (w5).cell? ⟨w4.heap.size, 1, none⟩ = some (Value.slice Bx0 Rx0.length kx0) := (obj_cell obx0).trans rfl
  have sz7 : w4.heap.size ≤ w5.heap.size := hb5.size
  have r0 := r0.below (hb5.mono (by omega))
  have rx0 := rx0.below (hb5.mono (by omega))
  have ox0 := ox0.below hb5
  have HB := HB.trans (hb5.mono (by omega))
  have ct := canShade_impl Ax0 Bx0 cx0 kx0 xs0 Rx0 a1 wb1 a2 wb2 w5 (rx0.toM (by omega) (by omega) (by omega))
  try rw [ex0] at ct
  (with_reducible refine ct.mono ?_)
  clear ct
  rintro e w6 ⟨rfl, hb6⟩
  have ob0 := obj_below ob0 hb6 (obj_lt ob0)
  have obx0 := obj_below obx0 hb6 (obj_lt obx0)
  have f00 : (w6).cell? ⟨w.heap.size, 0, none⟩ = some (Value.slice A0 xs0.length c0) := (obj_cell ob0).trans rfl
  have f01 : (w6).cell? ⟨w.heap.size, 1, none⟩ = some (Value.slice B0 rs0.length k0) := (obj_cell ob0).trans rfl
  have fx00 : (w6).cell? ⟨w4.heap.size, 0, none⟩ = some (Value.slice Ax0 xs0.length cx0) := (obj_cell obx0).trans rfl
  have fx01 : (w6).cell? ⟨w4.heap.size, 1, none⟩ = some (Value.slice Bx0 Rx0.length kx0) := (obj_cell obx0).trans rfl
  have sz8 : w5.heap.size ≤ w6.heap.size := hb6.size
  have r0 := r0.below (hb6.mono (by omega))
  have rx0 := rx0.below (hb6.mono (by omega))
  have ox0 := ox0.below hb6
  have HB := HB.trans (hb6.mono (by omega))
  go_wp2_with fail
  have szd : w6.drew.heap.size = w6.heap.size := rfl
  have rd0 : Read w6.drew w6.heap.size (⟨A0, c0, xs0⟩ :: rs0) [⟨B0, k0, rs0.map Row.v⟩] := (r0.dr (Dr.refl _).drew).more (by omega)
  have rdx0 : Read w6.drew w6.heap.size (⟨Ax0, cx0, xs0⟩ :: Rx0) [⟨Bx0, kx0, Rx0.map Row.v⟩] := (rx0.dr (Dr.refl _).drew).more (by omega)
  have g00 : w6.drew.cell? ⟨w.heap.size, 0, none⟩ = some (Value.slice A0 xs0.length c0) := f00
  have g01 : w6.drew.cell? ⟨w.heap.size, 1, none⟩ = some (Value.slice B0 rs0.length k0) := f01
  have gx00 : w6.drew.cell? ⟨w4.heap.size, 0, none⟩ = some (Value.slice Ax0 xs0.length cx0) := fx00
  have gx01 : w6.drew.cell? ⟨w4.heap.size, 1, none⟩ = some (Value.slice Bx0 Rx0.length kx0) := fx01
  go_region_held3 (fun v => v.cell? ⟨w.heap.size, 0, none⟩ = some (Value.slice A0 xs0.length c0) ∧ v.cell? ⟨w.heap.size, 1, none⟩ = some (Value.slice B0 rs0.length k0) ∧ v.cell? ⟨w4.heap.size, 0, none⟩ = some (Value.slice Ax0 xs0.length cx0) ∧ v.cell? ⟨w4.heap.size, 1, none⟩ = some (Value.slice Bx0 Rx0.length kx0)) (first | exact ⟨g00, g01, gx00, gx01⟩ | exact ⟨h00, h01, hx00, hx01⟩ | exact ⟨q00, q01, qx00, qx01⟩) ((first | (go_at_call 46; (with_reducible refine (toM_R A0 B0 c0 k0 xs0 rs0 w6.drew (rd0.toM (by omega) (by omega) (by omega))).mono ?_); rintro e w7 ⟨Ay0, By0, cy0, ky0, Ry0, rfl, ey0, oy0, hb7⟩; have szk7 := hb7.size; have h00 : w7.cell? ⟨w.heap.size, 0, none⟩ = some (Value.slice A0 xs0.length c0) := (hb7.cell (obj_lt ob0)).trans g00; have h01 : w7.cell? ⟨w.heap.size, 1, none⟩ = some (Value.slice B0 rs0.length k0) := (hb7.cell (obj_lt ob0)).trans g01; have hx00 : w7.cell? ⟨w4.heap.size, 0, none⟩ = some (Value.slice Ax0 xs0.length cx0) := (hb7.cell (obj_lt obx0)).trans gx00; have hx01 : w7.cell? ⟨w4.heap.size, 1, none⟩ = some (Value.slice Bx0 Rx0.length kx0) := (hb7.cell (obj_lt obx0)).trans gx01; have rdx0 := rdx0.below (hb7.mono (by omega)); have rdy0 := oy0.read; have zy0 : Ry0.length ≤ rs0.length := Nat.le_of_eq (map_len ey0); have yy0 : sizeR Ry0 ≤ sizeR rs0 := Nat.le_of_eq (map_size ey0)) | (go_at_call 48; (with_reducible refine (eqM_R Ax0 Ay0 Bx0 By0 cx0 cy0 kx0 ky0 xs0 Rx0 Ry0 w7 (rdx0.toM (by omega) (by omega) (by omega)) (rdy0.toM (by omega) (by omega) (by omega)) (ex0.trans ey0.symm)).mono ?_); rintro e w8 ⟨rfl, hb8⟩; have q00 : w8.cell? ⟨w.heap.size, 0, none⟩ = some (Value.slice A0 xs0.length c0) := (hb8.cell (Nat.lt_of_lt_of_le (obj_lt ob0) szk7)).trans h00; have q01 : w8.cell? ⟨w.heap.size, 1, none⟩ = some (Value.slice B0 rs0.length k0) := (hb8.cell (Nat.lt_of_lt_of_le (obj_lt ob0) szk7)).trans h01; have qx00 : w8.cell? ⟨w4.heap.size, 0, none⟩ = some (Value.slice Ax0 xs0.length cx0) := (hb8.cell (Nat.lt_of_lt_of_le (obj_lt obx0) szk7)).trans hx00; have qx01 : w8.cell? ⟨w4.heap.size, 1, none⟩ = some (Value.slice Bx0 Rx0.length kx0) := (hb8.cell (Nat.lt_of_lt_of_le (obj_lt obx0) szk7)).trans hx01)))
  have hb7 : Below w6.heap.size w6 w7 := (below_dr (Below.refl _ _) (Dr.refl _).drew).trans hb7
  have ob0 := obj_below ob0 hb7 (obj_lt ob0)
  have obx0 := obj_below obx0 hb7 (obj_lt obx0)
  have f00 : (w7).cell? ⟨w.heap.size, 0, none⟩ = some (Value.slice A0 xs0.length c0) := (obj_cell ob0).trans rfl
  have f01 : (w7).cell? ⟨w.heap.size, 1, none⟩ = some (Value.slice B0 rs0.length k0) := (obj_cell ob0).trans rfl
  have fx00 : (w7).cell? ⟨w4.heap.size, 0, none⟩ = some (Value.slice Ax0 xs0.length cx0) := (obj_cell obx0).trans rfl
  have fx01 : (w7).cell? ⟨w4.heap.size, 1, none⟩ = some (Value.slice Bx0 Rx0.length kx0) := (obj_cell obx0).trans rfl
  have sz9 : w6.heap.size ≤ w7.heap.size := hb7.size
  have r0 := r0.below (hb7.mono (by omega))
  have rx0 := rx0.below (hb7.mono (by omega))
  have ox0 := ox0.below hb7
  have HB := HB.trans (hb7.mono (by omega))
  have ob0 := obj_below ob0 hb8 (obj_lt ob0)
  have obx0 := obj_below obx0 hb8 (obj_lt obx0)
  have f00 : (w8).cell? ⟨w.heap.size, 0, none⟩ = some (Value.slice A0 xs0.length c0) := (obj_cell ob0).trans rfl
  have f01 : (w8).cell? ⟨w.heap.size, 1, none⟩ = some (Value.slice B0 rs0.length k0) := (obj_cell ob0).trans rfl
  have fx00 : (w8).cell? ⟨w4.heap.size, 0, none⟩ = some (Value.slice Ax0 xs0.length cx0) := (obj_cell obx0).trans rfl
  have fx01 : (w8).cell? ⟨w4.heap.size, 1, none⟩ = some (Value.slice Bx0 Rx0.length kx0) := (obj_cell obx0).trans rfl
  have sz10 : w7.heap.size ≤ w8.heap.size := hb8.size
  have r0 := r0.below (hb8.mono (by omega))
  have rx0 := rx0.below (hb8.mono (by omega))
  have ox0 := ox0.below hb8
  have HB := HB.trans (hb8.mono (by omega))
  go_wp2_with fail
  go_ret
  exact ⟨rfl, HB⟩
end Go.Proofs.Ytmkaelefljjamaa
