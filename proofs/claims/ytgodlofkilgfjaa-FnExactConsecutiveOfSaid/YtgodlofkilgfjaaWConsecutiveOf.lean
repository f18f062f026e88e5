/- The walk of FnExactConsecutiveOf: every call by its contract. -/
import Derived.Test.YtgodlofkilgfjaaN3
import Derived.Test.YtgodlofkilgfjaaR2
import Derived.Deep.RegionHeld3
namespace Go.Proofs.Ytgodlofkilgfjaa
open Go Go.RowKit

set_option maxHeartbeats 2000000 in
set_option maxRecDepth 100000 in
theorem walk_FnExactConsecutiveOf (w : World) (A0 : Option Addr) (c0 : Nat) (xs0 : List Int) (ar0 : Arg w [⟨A0, c0, xs0⟩] []) :
    Calls Try.prog 5 #[.slice A0 xs0.length c0] w (Rb w (.bool true)) := by
  have hml0 : xs0.length ≤ 9223372036854775807 := ar0.lenI
  rcases Nat.lt_or_ge 1048576 xs0.length with hbig | hs0
  · go_enter Try.func5, Try.ntmps5
    go_wp2
    go_ret
    exact ⟨rfl, Below.refl _ _⟩
  go_enter Try.func5, Try.ntmps5
  have HB := Below.refl w.heap.size w
  have r0 := ar0.read
  go_wp2_with fail
  (with_reducible refine (toI_R A0 c0 xs0 w (r0.toI hs0 (by omega))).mono ?_)
  rintro e w1 ⟨As0, cs0, rfl, os0, hb1⟩
  have sz2 : w.heap.size ≤ w1.heap.size := hb1.size
  have r0 := r0.below (hb1.mono (by omega))
  have HB := HB.trans (hb1.mono (by omega))
  have rs0 := os0.read
  go_wp2_with fail
  have ct := consecutive_spec As0 cs0 xs0 w1 (rs0.toI (by omega) (by omega))
  (with_reducible refine ct.mono ?_)
  clear ct
  rintro e w2 ⟨AW, BW, cW, kW, rfl, oW, hb2⟩
  have sz3 : w1.heap.size ≤ w2.heap.size := hb2.size
  have r0 := r0.below (hb2.mono (by omega))
  have rs0 := rs0.below (hb2.mono (by omega))
  have os0 := os0.below hb2
  have HB := HB.trans (hb2.mono (by omega))
  have rW := oW.read
  have hb3 : Below w2.heap.size w2 ((w2.alloc (Obj.cells #[Value.slice AW ((conG1 xs0)).length cW, Value.slice BW ((conG2 xs0)).length kW] 31))) := (Below.refl _ _).alloc (Nat.le_refl _) _
  have obW : ((w2.alloc (Obj.cells #[Value.slice AW ((conG1 xs0)).length cW, Value.slice BW ((conG2 xs0)).length kW] 31))).heap[w2.heap.size]? = some (Obj.cells #[Value.slice AW ((conG1 xs0)).length cW, Value.slice BW ((conG2 xs0)).length kW] 31) := obj_new _ _
  have fW0 : ((w2.alloc (Obj.cells #[Value.slice AW ((conG1 xs0)).length cW, Value.slice BW ((conG2 xs0)).length kW] 31))).cell? ⟨w2.heap.size, 0, none⟩ = some (Value.slice AW ((conG1 xs0)).length cW) := (obj_cell obW).trans rfl
  have fW1 : ((w2.alloc (Obj.cells #[Value.slice AW ((conG1 xs0)).length cW, Value.slice BW ((conG2 xs0)).length kW] 31))).cell? ⟨w2.heap.size, 1, none⟩ = some (Value.slice BW ((conG2 xs0)).length kW) := (obj_cell obW).trans rfl
  clear os0 rs0
  go_wp2_with fail
  generalize (w2.alloc (Obj.cells #[Value.slice AW ((conG1 xs0)).length cW, Value.slice BW ((conG2 xs0)).length kW] 31)) = w3 at hb3 obW fW0 fW1 ⊢
  have ltW := obj_lt obW
  have fW0 : (w3).cell? ⟨w2.heap.size, 0, none⟩ = some (Value.slice AW ((conG1 xs0)).length cW) := (obj_cell obW).trans rfl
  have fW1 : (w3).cell? ⟨w2.heap.size, 1, none⟩ = some (Value.slice BW ((conG2 xs0)).length kW) := (obj_cell obW).trans rfl
  have sz4 : w2.heap.size ≤ w3.heap.size := hb3.size
  have r0 := r0.below (hb3.mono (by omega))
  have rW := rW.below (hb3.mono (by omega))
  have oW := oW.below hb3
  have HB := HB.trans (hb3.mono (by omega))
  (with_reducible refine (toI_R A0 c0 xs0 w3 (r0.toI hs0 (by omega))).mono ?_)
  rintro e w4 ⟨Ax0, cx0, rfl, ox0, hb4⟩
  have obW := obj_below obW hb4 (obj_lt obW)
  have fW0 : (w4).cell? ⟨w2.heap.size, 0, none⟩ = some (Value.slice AW ((conG1 xs0)).length cW) := (obj_cell obW).trans rfl
  have fW1 : (w4).cell? ⟨w2.heap.size, 1, none⟩ = some (Value.slice BW ((conG2 xs0)).length kW) := (obj_cell obW).trans rfl
  have sz5 : w3.heap.size ≤ w4.heap.size := hb4.size
  have r0 := r0.below (hb4.mono (by omega))
  have rW := rW.below (hb4.mono (by omega))
  have oW := oW.below hb4
  have HB := HB.trans (hb4.mono (by omega))
  have rx0 := ox0.read
  go_wp2_with fail
  have ct := consecutive_impl Ax0 cx0 xs0 w4 (rx0.toI (by omega) (by omega))
  (with_reducible refine ct.mono ?_)
  clear ct
  rintro e w5 ⟨Ag, Bg, cg, kg, rfl, og, hb5⟩
  have obW := obj_below obW hb5 (obj_lt obW)
  have fW0 : (w5).cell? ⟨w2.heap.size, 0, none⟩ = some (Value.slice AW ((conG1 xs0)).length cW) := (obj_cell obW).trans rfl
  have fW1 : (w5).cell? ⟨w2.heap.size, 1, none⟩ = some (Value.slice BW ((conG2 xs0)).length kW) := (obj_cell obW).trans rfl
  have sz6 : w4.heap.size ≤ w5.heap.size := hb5.size
  have r0 := r0.below (hb5.mono (by omega))
  have rW := rW.below (hb5.mono (by omega))
  have rx0 := rx0.below (hb5.mono (by omega))
  have oW := oW.below hb5
  have ox0 := ox0.below hb5
  have HB := HB.trans (hb5.mono (by omega))
  have rg := og.read
  have hb6 : Below w5.heap.size w5 ((w5.alloc (Obj.cells #[Value.slice Ag ((conG1 xs0)).length cg, Value.slice Bg ((conG2 xs0)).length kg] 31))) := (Below.refl _ _).alloc (Nat.le_refl _) _
  have obWq : ((w5.alloc (Obj.cells #[Value.slice Ag ((conG1 xs0)).length cg, Value.slice Bg ((conG2 xs0)).length kg] 31))).heap[w2.heap.size]? = some (Obj.cells #[Value.slice AW ((conG1 xs0)).length cW, Value.slice BW ((conG2 xs0)).length kW] 31) := obj_below obW hb6 (obj_lt obW)
  have fW0 : ((w5.alloc (Obj.cells #[Value.slice Ag ((conG1 xs0)).length cg, Value.slice Bg ((conG2 xs0)).length kg] 31))).cell? ⟨w2.heap.size, 0, none⟩ = some (Value.slice AW ((conG1 xs0)).length cW) := (obj_cell obWq).trans rfl
  have fW1 : ((w5.alloc (Obj.cells #[Value.slice Ag ((conG1 xs0)).length cg, Value.slice Bg ((conG2 xs0)).length kg] 31))).cell? ⟨w2.heap.size, 1, none⟩ = some (Value.slice BW ((conG2 xs0)).length kW) := (obj_cell obWq).trans rfl
  clear obWq
  have obg : ((w5.alloc (Obj.cells #[Value.slice Ag ((conG1 xs0)).length cg, Value.slice Bg ((conG2 xs0)).length kg] 31))).heap[w5.heap.size]? = some (Obj.cells #[Value.slice Ag ((conG1 xs0)).length cg, Value.slice Bg ((conG2 xs0)).length kg] 31) := obj_new _ _
  have fg0 : ((w5.alloc (Obj.cells #[Value.slice Ag ((conG1 xs0)).length cg, Value.slice Bg ((conG2 xs0)).length kg] 31))).cell? ⟨w5.heap.size, 0, none⟩ = some (Value.slice Ag ((conG1 xs0)).length cg) := (obj_cell obg).trans rfl
  have fg1 : ((w5.alloc (Obj.cells #[Value.slice Ag ((conG1 xs0)).length cg, Value.slice Bg ((conG2 xs0)).length kg] 31))).cell? ⟨w5.heap.size, 1, none⟩ = some (Value.slice Bg ((conG2 xs0)).length kg) := (obj_cell obg).trans rfl
  have hGl : (conG1 xs0).length + (conG2 xs0).length ≤ 1048576 := (by have := conG_le xs0; omega)
  go_wp2_with fail
  generalize (w5.alloc (Obj.cells #[Value.slice Ag ((conG1 xs0)).length cg, Value.slice Bg ((conG2 xs0)).length kg] 31)) = w6 at hb6 fW0 fW1 obg fg0 fg1 ⊢
  have ltg := obj_lt obg
  have obW := obj_below obW hb6 (obj_lt obW)
  have fW0 : (w6).cell? ⟨w2.heap.size, 0, none⟩ = some (Value.slice AW ((conG1 xs0)).length cW) := (obj_cell obW).trans rfl
  have fW1 : (w6).cell? ⟨w2.heap.size, 1, none⟩ = some (Value.slice BW ((conG2 xs0)).length kW) := (obj_cell obW).trans rfl
  have fg0 : (w6).cell? ⟨w5.heap.size, 0, none⟩ = some (Value.slice Ag ((conG1 xs0)).length cg) := (obj_cell obg).trans rfl
  have fg1 : (w6).cell? ⟨w5.heap.size, 1, none⟩ = some (Value.slice Bg ((conG2 xs0)).length kg) := (obj_cell obg).trans rfl
  have sz7 : w5.heap.size ≤ w6.heap.size := hb6.size
  have r0 := r0.below (hb6.mono (by omega))
  have rW := rW.below (hb6.mono (by omega))
  have rx0 := rx0.below (hb6.mono (by omega))
  have rg := rg.below (hb6.mono (by omega))
  have oW := oW.below hb6
  have ox0 := ox0.below hb6
  have og := og.below hb6
  have HB := HB.trans (hb6.mono (by omega))
  (with_reducible refine (eqN_R Ag AW Bg BW cg cW kg kW (conG1 xs0) (conG2 xs0) w6 (rg.toN (by omega) (by omega) (by omega)) (rW.toN (by omega) (by omega) (by omega))).mono ?_)
  rintro e w7 ⟨rfl, hb7⟩
  have obW := obj_below obW hb7 (obj_lt obW)
  have obg := obj_below obg hb7 (obj_lt obg)
  have fW0 : (w7).cell? ⟨w2.heap.size, 0, none⟩ = some (Value.slice AW ((conG1 xs0)).length cW) := (obj_cell obW).trans rfl
  have fW1 : (w7).cell? ⟨w2.heap.size, 1, none⟩ = some (Value.slice BW ((conG2 xs0)).length kW) := (obj_cell obW).trans rfl
  have fg0 : (w7).cell? ⟨w5.heap.size, 0, none⟩ = some (Value.slice Ag ((conG1 xs0)).length cg) := (obj_cell obg).trans rfl
  have fg1 : (w7).cell? ⟨w5.heap.size, 1, none⟩ = some (Value.slice Bg ((conG2 xs0)).length kg) := (obj_cell obg).trans rfl
  have sz8 : w6.heap.size ≤ w7.heap.size := hb7.size
  have r0 := r0.below (hb7.mono (by omega))
  have rW := rW.below (hb7.mono (by omega))
  have rx0 := rx0.below (hb7.mono (by omega))
  have rg := rg.below (hb7.mono (by omega))
  have oW := oW.below hb7
  have ox0 := ox0.below hb7
  have og := og.below hb7
  have HB := HB.trans (hb7.mono (by omega))
  go_wp2_with fail
  (with_reducible refine (toI_R A0 c0 xs0 w7 (r0.toI hs0 (by omega))).mono ?_)
  rintro e w8 ⟨Ay0, cy0, rfl, oy0, hb8⟩
  have obW := obj_below obW hb8 (obj_lt obW)
  have obg := obj_below obg hb8 (obj_lt obg)
  have fW0 : (w8).cell? ⟨w2.heap.size, 0, none⟩ = some (Value.slice AW ((conG1 xs0)).length cW) := (obj_cell obW).trans rfl
  have fW1 : (w8).cell? ⟨w2.heap.size, 1, none⟩ = some (Value.slice BW ((conG2 xs0)).length kW) := (obj_cell obW).trans rfl
  have fg0 : (w8).cell? ⟨w5.heap.size, 0, none⟩ = some (Value.slice Ag ((conG1 xs0)).length cg) := (obj_cell obg).trans rfl
  have fg1 : (w8).cell? ⟨w5.heap.size, 1, none⟩ = some (Value.slice Bg ((conG2 xs0)).length kg) := (obj_cell obg).trans rfl
  have sz9 : w7.heap.size ≤ w8.heap.size := hb8.size
  have r0 := r0.below (hb8.mono (by omega))
  have rW := rW.below (hb8.mono (by omega))
  have rx0 := rx0.below (hb8.mono (by omega))
  have rg := rg.below (hb8.mono (by omega))
  have oW := oW.below hb8
  have ox0 := ox0.below hb8
  have og := og.below hb8
  have HB := HB.trans (hb8.mono (by omega))
  have ry0 := oy0.read
  go_wp2_with fail
  (with_reducible refine (eqI_R Ax0 Ay0 cx0 cy0 xs0 w8 (rx0.toI (by omega) (by omega)) (ry0.toI (by omega) (by omega))).mono ?_)
  rintro e w9 ⟨rfl, hb9⟩
  have obW := obj_below obW hb9 (obj_lt obW)
  have obg := obj_below obg hb9 (obj_lt obg)
  have fW0 : (w9).cell? ⟨w2.heap.size, 0, none⟩ = some (Value.slice AW ((conG1 xs0)).length cW) := (obj_cell obW).trans rfl
  have fW1 : (w9).cell? ⟨w2.heap.size, 1, none⟩ = some (Value.slice BW ((conG2 xs0)).length kW) := (obj_cell obW).trans rfl
  have fg0 : (w9).cell? ⟨w5.heap.size, 0, none⟩ = some (Value.slice Ag ((conG1 xs0)).length cg) := (obj_cell obg).trans rfl
  have fg1 : (w9).cell? ⟨w5.heap.size, 1, none⟩ = some (Value.slice Bg ((conG2 xs0)).length kg) := (obj_cell obg).trans rfl
  have sz10 : w8.heap.size ≤ w9.heap.size := hb9.size
  have r0 := r0.below (hb9.mono (by omega))
  have rW := rW.below (hb9.mono (by omega))
  have rx0 := rx0.below (hb9.mono (by omega))
  have rg := rg.below (hb9.mono (by omega))
  have ry0 := ry0.below (hb9.mono (by omega))
  have oW := oW.below hb9
  have ox0 := ox0.below hb9
  have og := og.below hb9
  have oy0 := oy0.below hb9
  have HB := HB.trans (hb9.mono (by omega))
  clear oy0 ry0
  go_wp2_with fail
  (with_reducible refine (markI_R Ax0 cx0 xs0 _ _ (1) w9 (by omega) (by omega) (by omega) ox0).mono ?_)
  rintro e w10 ⟨rfl, om, sp10⟩
  have sz11 : w9.heap.size ≤ w10.heap.size := sp10.size
  have r0 := r0.span sp10 (by omega) (by omega)
  have rW := rW.span sp10 (by omega) (by omega)
  clear oW
  clear ox0 rx0
  have og := og.span sp10 (.inr (by omega))
  have rg := og.read
  have ox0 := om
  have rx0 := om.read
  clear om
  have HB := HB.trans (sp10.below (B := w.heap.size) (by omega) (by omega))
  have obW := (sp10.block _ (obj_lt obW) (by omega)).trans obW
  have obg := (sp10.block _ (obj_lt obg) (by omega)).trans obg
  have fW0 : (w10).cell? ⟨w2.heap.size, 0, none⟩ = some (Value.slice AW ((conG1 xs0)).length cW) := (obj_cell obW).trans rfl
  have fW1 : (w10).cell? ⟨w2.heap.size, 1, none⟩ = some (Value.slice BW ((conG2 xs0)).length kW) := (obj_cell obW).trans rfl
  have fg0 : (w10).cell? ⟨w5.heap.size, 0, none⟩ = some (Value.slice Ag ((conG1 xs0)).length cg) := (obj_cell obg).trans rfl
  have fg1 : (w10).cell? ⟨w5.heap.size, 1, none⟩ = some (Value.slice Bg ((conG2 xs0)).length kg) := (obj_cell obg).trans rfl
  go_wp2_with fail
  (with_reducible refine (eqN_R Ag AW Bg BW cg cW kg kW (conG1 xs0) (conG2 xs0) w10 (rg.toN (by omega) (by omega) (by omega)) (rW.toN (by omega) (by omega) (by omega))).mono ?_)
  rintro e w11 ⟨rfl, hb11⟩
  have obW := obj_below obW hb11 (obj_lt obW)
  have obg := obj_below obg hb11 (obj_lt obg)
  have fW0 : (w11).cell? ⟨w2.heap.size, 0, none⟩ = some (Value.slice AW ((conG1 xs0)).length cW) := (obj_cell obW).trans rfl
  have fW1 : (w11).cell? ⟨w2.heap.size, 1, none⟩ = some (Value.slice BW ((conG2 xs0)).length kW) := (obj_cell obW).trans rfl
  have fg0 : (w11).cell? ⟨w5.heap.size, 0, none⟩ = some (Value.slice Ag ((conG1 xs0)).length cg) := (obj_cell obg).trans rfl
  have fg1 : (w11).cell? ⟨w5.heap.size, 1, none⟩ = some (Value.slice Bg ((conG2 xs0)).length kg) := (obj_cell obg).trans rfl
  have sz12 : w10.heap.size ≤ w11.heap.size := hb11.size
  have r0 := r0.below (hb11.mono (by omega))
  have rW := rW.below (hb11.mono (by omega))
  have rg := rg.below (hb11.mono (by omega))
  have rx0 := rx0.below (hb11.mono (by omega))
  have og := og.below hb11
  have ox0 := ox0.below hb11
  have HB := HB.trans (hb11.mono (by omega))
  clear ox0 rx0
  go_wp2_with fail
  (with_reducible refine (markN_R Ag Bg cg kg (conG1 xs0) (conG2 xs0) _ _ (1) w11 (by omega) (by omega) (by omega) og).mono ?_)
  rintro e w12 ⟨rfl, om, sp12⟩
  have sz13 : w11.heap.size ≤ w12.heap.size := sp12.size
  have r0 := r0.span sp12 (by omega) (by omega)
  have rW := rW.span sp12 (by omega) (by omega)
  clear og rg
  have og := om
  have rg := om.read
  clear om
  have HB := HB.trans (sp12.below (B := w.heap.size) (by omega) (by omega))
  have obW := (sp12.block _ (obj_lt obW) (by omega)).trans obW
  have obg := (sp12.block _ (obj_lt obg) (by omega)).trans obg
  have fW0 : (w12).cell? ⟨w2.heap.size, 0, none⟩ = some (Value.slice AW ((conG1 xs0)).length cW) := (obj_cell obW).trans rfl
  have fW1 : (w12).cell? ⟨w2.heap.size, 1, none⟩ = some (Value.slice BW ((conG2 xs0)).length kW) := (obj_cell obW).trans rfl
  have fg0 : (w12).cell? ⟨w5.heap.size, 0, none⟩ = some (Value.slice Ag ((conG1 xs0)).length cg) := (obj_cell obg).trans rfl
  have fg1 : (w12).cell? ⟨w5.heap.size, 1, none⟩ = some (Value.slice Bg ((conG2 xs0)).length kg) := (obj_cell obg).trans rfl
  go_wp2_with fail
  (with_reducible refine (heldN_R Ag Bg cg kg _ 1 (conG1 xs0).length (conG2 xs0).length w12 (by omega) (by omega) (by omega) rg).mono ?_)
  rintro e w13 ⟨rfl, hb13⟩
  have obW := obj_below obW hb13 (obj_lt obW)
  have obg := obj_below obg hb13 (obj_lt obg)
  have fW0 : (w13).cell? ⟨w2.heap.size, 0, none⟩ = some (Value.slice AW ((conG1 xs0)).length cW) := (obj_cell obW).trans rfl
  have fW1 : (w13).cell? ⟨w2.heap.size, 1, none⟩ = some (Value.slice BW ((conG2 xs0)).length kW) := (obj_cell obW).trans rfl
  have fg0 : (w13).cell? ⟨w5.heap.size, 0, none⟩ = some (Value.slice Ag ((conG1 xs0)).length cg) := (obj_cell obg).trans rfl
  have fg1 : (w13).cell? ⟨w5.heap.size, 1, none⟩ = some (Value.slice Bg ((conG2 xs0)).length kg) := (obj_cell obg).trans rfl
  have sz14 : w12.heap.size ≤ w13.heap.size := hb13.size
  have r0 := r0.below (hb13.mono (by omega))
  have rW := rW.below (hb13.mono (by omega))
  have rg := rg.below (hb13.mono (by omega))
  have og := og.below hb13
  have HB := HB.trans (hb13.mono (by omega))
  go_wp2_with fail
  (with_reducible refine (toI_R A0 c0 xs0 w13 (r0.toI hs0 (by omega))).mono ?_)
  rintro e w14 ⟨Az0, cz0, rfl, oz0, hb14⟩
  have obW := obj_below obW hb14 (obj_lt obW)
  have obg := obj_below obg hb14 (obj_lt obg)
  have fW0 : (w14).cell? ⟨w2.heap.size, 0, none⟩ = some (Value.slice AW ((conG1 xs0)).length cW) := (obj_cell obW).trans rfl
  have fW1 : (w14).cell? ⟨w2.heap.size, 1, none⟩ = some (Value.slice BW ((conG2 xs0)).length kW) := (obj_cell obW).trans rfl
  have fg0 : (w14).cell? ⟨w5.heap.size, 0, none⟩ = some (Value.slice Ag ((conG1 xs0)).length cg) := (obj_cell obg).trans rfl
  have fg1 : (w14).cell? ⟨w5.heap.size, 1, none⟩ = some (Value.slice Bg ((conG2 xs0)).length kg) := (obj_cell obg).trans rfl
  have sz15 : w13.heap.size ≤ w14.heap.size := hb14.size
  have r0 := r0.below (hb14.mono (by omega))
  have rW := rW.below (hb14.mono (by omega))
  have rg := rg.below (hb14.mono (by omega))
  have og := og.below hb14
  have HB := HB.trans (hb14.mono (by omega))
  have rz0 := oz0.read
  go_wp2_with fail
  have ct := consecutive_impl Az0 cz0 xs0 w14 (rz0.toI (by omega) (by omega))
  (with_reducible refine ct.mono ?_)
  clear ct
  rintro e w15 ⟨Ah, Bh, ch, kh, rfl, oh, hb15⟩
  have obW := obj_below obW hb15 (obj_lt obW)
  have obg := obj_below obg hb15 (obj_lt obg)
  have fW0 : (w15).cell? ⟨w2.heap.size, 0, none⟩ = some (Value.slice AW ((conG1 xs0)).length cW) := (obj_cell obW).trans rfl
  have fW1 : (w15).cell? ⟨w2.heap.size, 1, none⟩ = some (Value.slice BW ((conG2 xs0)).length kW) := (obj_cell obW).trans rfl
  have fg0 : (w15).cell? ⟨w5.heap.size, 0, none⟩ = some (Value.slice Ag ((conG1 xs0)).length cg) := (obj_cell obg).trans rfl
  have fg1 : (w15).cell? ⟨w5.heap.size, 1, none⟩ = some (Value.slice Bg ((conG2 xs0)).length kg) := (obj_cell obg).trans rfl
  have sz16 : w14.heap.size ≤ w15.heap.size := hb15.size
  have r0 := r0.below (hb15.mono (by omega))
  have rW := rW.below (hb15.mono (by omega))
  have rg := rg.below (hb15.mono (by omega))
  have rz0 := rz0.below (hb15.mono (by omega))
  have og := og.below hb15
  have oz0 := oz0.below hb15
  have HB := HB.trans (hb15.mono (by omega))
  have rh := oh.read
  have hb16 : Below w15.heap.size w15 ((w15.alloc (Obj.cells #[Value.slice Ah ((conG1 xs0)).length ch, Value.slice Bh ((conG2 xs0)).length kh] 31))) := (Below.refl _ _).alloc (Nat.le_refl _) _
  have obWq : ((w15.alloc (Obj.cells #[Value.slice Ah ((conG1 xs0)).length ch, Value.slice Bh ((conG2 xs0)).length kh] 31))).heap[w2.heap.size]? = some (Obj.cells #[Value.slice AW ((conG1 xs0)).length cW, Value.slice BW ((conG2 xs0)).length kW] 31) := obj_below obW hb16 (obj_lt obW)
  have fW0 : ((w15.alloc (Obj.cells #[Value.slice Ah ((conG1 xs0)).length ch, Value.slice Bh ((conG2 xs0)).length kh] 31))).cell? ⟨w2.heap.size, 0, none⟩ = some (Value.slice AW ((conG1 xs0)).length cW) := (obj_cell obWq).trans rfl
  have fW1 : ((w15.alloc (Obj.cells #[Value.slice Ah ((conG1 xs0)).length ch, Value.slice Bh ((conG2 xs0)).length kh] 31))).cell? ⟨w2.heap.size, 1, none⟩ = some (Value.slice BW ((conG2 xs0)).length kW) := (obj_cell obWq).trans rfl
  clear obWq
  have obgq : ((w15.alloc (Obj.cells #[Value.slice Ah ((conG1 xs0)).length ch, Value.slice Bh ((conG2 xs0)).length kh] 31))).heap[w5.heap.size]? = some (Obj.cells #[Value.slice Ag ((conG1 xs0)).length cg, Value.slice Bg ((conG2 xs0)).length kg] 31) := obj_below obg hb16 (obj_lt obg)
  have fg0 : ((w15.alloc (Obj.cells #[Value.slice Ah ((conG1 xs0)).length ch, Value.slice Bh ((conG2 xs0)).length kh] 31))).cell? ⟨w5.heap.size, 0, none⟩ = some (Value.slice Ag ((conG1 xs0)).length cg) := (obj_cell obgq).trans rfl
  have fg1 : ((w15.alloc (Obj.cells #[Value.slice Ah ((conG1 xs0)).length ch, Value.slice Bh ((conG2 xs0)).length kh] 31))).cell? ⟨w5.heap.size, 1, none⟩ = some (Value.slice Bg ((conG2 xs0)).length kg) := (obj_cell obgq).trans rfl
  clear obgq
  have obh : ((w15.alloc (Obj.cells #[Value.slice Ah ((conG1 xs0)).length ch, Value.slice Bh ((conG2 xs0)).length kh] 31))).heap[w15.heap.size]? = some (Obj.cells #[Value.slice Ah ((conG1 xs0)).length ch, Value.slice Bh ((conG2 xs0)).length kh] 31) := obj_new _ _
  have fh0 : ((w15.alloc (Obj.cells #[Value.slice Ah ((conG1 xs0)).length ch, Value.slice Bh ((conG2 xs0)).length kh] 31))).cell? ⟨w15.heap.size, 0, none⟩ = some (Value.slice Ah ((conG1 xs0)).length ch) := (obj_cell obh).trans rfl
  have fh1 : ((w15.alloc (Obj.cells #[Value.slice Ah ((conG1 xs0)).length ch, Value.slice Bh ((conG2 xs0)).length kh] 31))).cell? ⟨w15.heap.size, 1, none⟩ = some (Value.slice Bh ((conG2 xs0)).length kh) := (obj_cell obh).trans rfl
  go_wp2_with fail
  generalize (w15.alloc (Obj.cells #[Value.slice Ah ((conG1 xs0)).length ch, Value.slice Bh ((conG2 xs0)).length kh] 31)) = w16 at hb16 fW0 fW1 fg0 fg1 obh fh0 fh1 ⊢
  have lth := obj_lt obh
  have obW := obj_below obW hb16 (obj_lt obW)
  have obg := obj_below obg hb16 (obj_lt obg)
  have fW0 : (w16).cell? ⟨w2.heap.size, 0, none⟩ = some (Value.slice AW ((conG1 xs0)).length cW) := (obj_cell obW).trans rfl
  have fW1 : (w16).cell? ⟨w2.heap.size, 1, none⟩ = some (Value.slice BW ((conG2 xs0)).length kW) := (obj_cell obW).trans rfl
  have fg0 : (w16).cell? ⟨w5.heap.size, 0, none⟩ = some (Value.slice Ag ((conG1 xs0)).length cg) := (obj_cell obg).trans rfl
  have fg1 : (w16).cell? ⟨w5.heap.size, 1, none⟩ = some (Value.slice Bg ((conG2 xs0)).length kg) := (obj_cell obg).trans rfl
  have fh0 : (w16).cell? ⟨w15.heap.size, 0, none⟩ = some (Value.slice Ah ((conG1 xs0)).length ch) := (obj_cell obh).trans rfl
  have fh1 : (w16).cell? ⟨w15.heap.size, 1, none⟩ = some (Value.slice Bh ((conG2 xs0)).length kh) := (obj_cell obh).trans rfl
  have sz17 : w15.heap.size ≤ w16.heap.size := hb16.size
  have r0 := r0.below (hb16.mono (by omega))
  have rW := rW.below (hb16.mono (by omega))
  have rg := rg.below (hb16.mono (by omega))
  have rz0 := rz0.below (hb16.mono (by omega))
  have rh := rh.below (hb16.mono (by omega))
  have og := og.below hb16
  have oz0 := oz0.below hb16
  have oh := oh.below hb16
  have HB := HB.trans (hb16.mono (by omega))
  (with_reducible refine (eqN_R Ah AW Bh BW ch cW kh kW (conG1 xs0) (conG2 xs0) w16 (rh.toN (by omega) (by omega) (by omega)) (rW.toN (by omega) (by omega) (by omega))).mono ?_)
  rintro e w17 ⟨rfl, hb17⟩
  have obW := obj_below obW hb17 (obj_lt obW)
  have obg := obj_below obg hb17 (obj_lt obg)
  have obh := obj_below obh hb17 (obj_lt obh)
  have fW0 : (w17).cell? ⟨w2.heap.size, 0, none⟩ = some (Value.slice AW ((conG1 xs0)).length cW) := (obj_cell obW).trans rfl
  have fW1 : (w17).cell? ⟨w2.heap.size, 1, none⟩ = some (Value.slice BW ((conG2 xs0)).length kW) := (obj_cell obW).trans rfl
  have fg0 : (w17).cell? ⟨w5.heap.size, 0, none⟩ = some (Value.slice Ag ((conG1 xs0)).length cg) := (obj_cell obg).trans rfl
  have fg1 : (w17).cell? ⟨w5.heap.size, 1, none⟩ = some (Value.slice Bg ((conG2 xs0)).length kg) := (obj_cell obg).trans rfl
  have fh0 : (w17).cell? ⟨w15.heap.size, 0, none⟩ = some (Value.slice Ah ((conG1 xs0)).length ch) := (obj_cell obh).trans rfl
  have fh1 : (w17).cell? ⟨w15.heap.size, 1, none⟩ = some (Value.slice Bh ((conG2 xs0)).length kh) := (obj_cell obh).trans rfl
  have sz18 : w16.heap.size ≤ w17.heap.size := hb17.size
  have r0 := r0.below (hb17.mono (by omega))
  have rW := rW.below (hb17.mono (by omega))
  have rg := rg.below (hb17.mono (by omega))
  have rz0 := rz0.below (hb17.mono (by omega))
  have rh := rh.below (hb17.mono (by omega))
  have og := og.below hb17
  have oz0 := oz0.below hb17
  have oh := oh.below hb17
  have HB := HB.trans (hb17.mono (by omega))
  go_wp2_with fail
  (with_reducible refine (heldN_R Ag Bg cg kg _ 1 (conG1 xs0).length (conG2 xs0).length w17 (by omega) (by omega) (by omega) rg).mono ?_)
  rintro e w18 ⟨rfl, hb18⟩
  have obW := obj_below obW hb18 (obj_lt obW)
  have obg := obj_below obg hb18 (obj_lt obg)
  have obh := obj_below obh hb18 (obj_lt obh)
  have fW0 : (w18).cell? ⟨w2.heap.size, 0, none⟩ = some (Value.slice AW ((conG1 xs0)).length cW) := (obj_cell obW).trans rfl
  have fW1 : (w18).cell? ⟨w2.heap.size, 1, none⟩ = some (Value.slice BW ((conG2 xs0)).length kW) := (obj_cell obW).trans rfl
  have fg0 : (w18).cell? ⟨w5.heap.size, 0, none⟩ = some (Value.slice Ag ((conG1 xs0)).length cg) := (obj_cell obg).trans rfl
  have fg1 : (w18).cell? ⟨w5.heap.size, 1, none⟩ = some (Value.slice Bg ((conG2 xs0)).length kg) := (obj_cell obg).trans rfl
  have fh0 : (w18).cell? ⟨w15.heap.size, 0, none⟩ = some (Value.slice Ah ((conG1 xs0)).length ch) := (obj_cell obh).trans rfl
  have fh1 : (w18).cell? ⟨w15.heap.size, 1, none⟩ = some (Value.slice Bh ((conG2 xs0)).length kh) := (obj_cell obh).trans rfl
  have sz19 : w17.heap.size ≤ w18.heap.size := hb18.size
  have r0 := r0.below (hb18.mono (by omega))
  have rW := rW.below (hb18.mono (by omega))
  have rg := rg.below (hb18.mono (by omega))
  have rz0 := rz0.below (hb18.mono (by omega))
  have rh := rh.below (hb18.mono (by omega))
  have og := og.below hb18
  have oz0 := oz0.below hb18
  have oh := oh.below hb18
  have HB := HB.trans (hb18.mono (by omega))
  go_wp2_with fail
  go_ret
  exact ⟨rfl, HB⟩
end Go.Proofs.Ytgodlofkilgfjaa
