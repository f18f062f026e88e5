/- The walk of FnExactParseNear: every call by its contract. -/
import Derived.Test.YtodokdddcikhdaaDoorPN3
import Derived.Test.YtodokdddcikhdaaDoorR2
namespace Go.Proofs.YtodokdddcikhdaaDoor
set_option maxRecDepth 100000
open Go Go.RowKit

set_option maxHeartbeats 2000000 in
set_option maxRecDepth 100000 in
theorem walk_FnExactParseNear (w : World) (s : ByteArray) (hsz : s.size ≤ 9223372036854775807) (m : Int) (hm : w.cell? ⟨0, 0, none⟩ = some (.int .i64 m)) :
    Calls Tryd.prog 3 #[.string s] w (Rb w (.bool true)) := by
  have hG := World.block_lt_of_cell? _ _ hm
  rcases Nat.lt_or_ge 1048576 s.size with hbig | hs
  · have d1 : decide ((s.size : Int) > 1048576) = true := decide_eq_true (by omega)
    have d2 : decide (1048576 < (s.size : Int)) = true := decide_eq_true (by omega)
    clear hm
    go_enter Tryd.func3, Tryd.ntmps3
    go_wp2
    go_ret
    exact ⟨rfl, Below.refl _ _⟩
  have d1 : decide ((s.size : Int) > 1048576) = false := decide_eq_false (by omega)
  have d2 : decide (1048576 < (s.size : Int)) = false := decide_eq_false (by omega)
  have HM := Lib.hid hm
  obtain ⟨l, rfl⟩ : ∃ l, s = bs l := ⟨s.data.toList, by unfold bs; simp⟩
  have hll : l.length ≤ 1048576 := by rw [← bs_size l]; exact hs
  have hGl := pnG_le l
  obtain ⟨X, hX⟩ : ∃ X, X = pnG1 l := ⟨_, rfl⟩
  obtain ⟨Y, hY⟩ : ∃ Y, Y = pnG2 l := ⟨_, rfl⟩
  obtain ⟨bo, hbo⟩ : ∃ bo, bo = pnOk l := ⟨_, rfl⟩
  have CS := Lib.hid (fun W : World => parseNear_spec l W hll)
  have CI := Lib.hid (fun (W : World) (hW : W.cell? ⟨0, 0, none⟩ = some (.int .i64 m)) => parseNear_impl l m W hll hW)
  rw [← hX, ← hY, ← hbo] at CS
  rw [← hX, ← hY, ← hbo] at CI
  rw [← hX, ← hY] at hGl
  clear hX hY hbo hm
  go_enter Tryd.func3, Tryd.ntmps3
  have HB := Below.refl w.heap.size w
  go_wp2_with fail
  (with_reducible refine (CS.out w).mono ?_)
  rintro e w3 ⟨AW, BW, cW, kW, rfl, oW, hb3⟩
  have sz_w3 : w.heap.size ≤ w3.heap.size := hb3.size
  have HB := HB.trans (hb3.mono (by omega))
  have rW := oW.read
  have hb4 : Below w3.heap.size w3 (w3.alloc (Obj.cells #[Value.slice AW X.length cW, Value.slice BW Y.length kW] 24)) := (Below.refl _ _).alloc (Nat.le_refl _) _
  have obW : (w3.alloc (Obj.cells #[Value.slice AW X.length cW, Value.slice BW Y.length kW] 24)).heap[w3.heap.size]? = some (Obj.cells #[Value.slice AW X.length cW, Value.slice BW Y.length kW] 24) := obj_new _ _
  have fW0 : (w3.alloc (Obj.cells #[Value.slice AW X.length cW, Value.slice BW Y.length kW] 24)).cell? ⟨w3.heap.size, 0, none⟩ = some (Value.slice AW X.length cW) := (obj_cell obW).trans rfl
  have fW1 : (w3.alloc (Obj.cells #[Value.slice AW X.length cW, Value.slice BW Y.length kW] 24)).cell? ⟨w3.heap.size, 1, none⟩ = some (Value.slice BW Y.length kW) := (obj_cell obW).trans rfl
  go_wp2_with fail
  generalize (w3.alloc (Obj.cells #[Value.slice AW X.length cW, Value.slice BW Y.length kW] 24)) = w4 at hb4 obW fW0 fW1 ⊢
  have ltW := obj_lt obW
  have fW0 : (w4).cell? ⟨w3.heap.size, 0, none⟩ = some (Value.slice AW X.length cW) := (obj_cell obW).trans rfl
  have fW1 : (w4).cell? ⟨w3.heap.size, 1, none⟩ = some (Value.slice BW Y.length kW) := (obj_cell obW).trans rfl
  have sz_w4 : w3.heap.size ≤ w4.heap.size := hb4.size
  have rW := rW.below (hb4.mono (by omega))
  have oW := oW.below hb4
  have HB := HB.trans (hb4.mono (by omega))
  have hmq := (HB.cell (p := ⟨0, 0, none⟩) hG).trans HM.out
  have CI3 := Lib.hid (CI.out w4 hmq)
  clear hmq
  (with_reducible refine CI3.out.mono ?_)
  rintro e w5 ⟨Ag, Bg, cg, kg, rfl, og, hb5⟩
  have obW := obj_below obW hb5 (obj_lt obW)
  have fW0 : (w5).cell? ⟨w3.heap.size, 0, none⟩ = some (Value.slice AW X.length cW) := (obj_cell obW).trans rfl
  have fW1 : (w5).cell? ⟨w3.heap.size, 1, none⟩ = some (Value.slice BW Y.length kW) := (obj_cell obW).trans rfl
  have sz_w5 : w4.heap.size ≤ w5.heap.size := hb5.size
  have rW := rW.below (hb5.mono (by omega))
  have oW := oW.below hb5
  have HB := HB.trans (hb5.mono (by omega))
  have rg := og.read
  have hb6 : Below w5.heap.size w5 (w5.alloc (Obj.cells #[Value.slice Ag X.length cg, Value.slice Bg Y.length kg] 24)) := (Below.refl _ _).alloc (Nat.le_refl _) _
  have obWq : (w5.alloc (Obj.cells #[Value.slice Ag X.length cg, Value.slice Bg Y.length kg] 24)).heap[w3.heap.size]? = some (Obj.cells #[Value.slice AW X.length cW, Value.slice BW Y.length kW] 24) := obj_below obW hb6 (obj_lt obW)
  have fW0 : (w5.alloc (Obj.cells #[Value.slice Ag X.length cg, Value.slice Bg Y.length kg] 24)).cell? ⟨w3.heap.size, 0, none⟩ = some (Value.slice AW X.length cW) := (obj_cell obWq).trans rfl
  have fW1 : (w5.alloc (Obj.cells #[Value.slice Ag X.length cg, Value.slice Bg Y.length kg] 24)).cell? ⟨w3.heap.size, 1, none⟩ = some (Value.slice BW Y.length kW) := (obj_cell obWq).trans rfl
  clear obWq
  have obg : (w5.alloc (Obj.cells #[Value.slice Ag X.length cg, Value.slice Bg Y.length kg] 24)).heap[w5.heap.size]? = some (Obj.cells #[Value.slice Ag X.length cg, Value.slice Bg Y.length kg] 24) := obj_new _ _
  have fg0 : (w5.alloc (Obj.cells #[Value.slice Ag X.length cg, Value.slice Bg Y.length kg] 24)).cell? ⟨w5.heap.size, 0, none⟩ = some (Value.slice Ag X.length cg) := (obj_cell obg).trans rfl
  have fg1 : (w5.alloc (Obj.cells #[Value.slice Ag X.length cg, Value.slice Bg Y.length kg] 24)).cell? ⟨w5.heap.size, 1, none⟩ = some (Value.slice Bg Y.length kg) := (obj_cell obg).trans rfl
  go_wp2_with fail
  generalize (w5.alloc (Obj.cells #[Value.slice Ag X.length cg, Value.slice Bg Y.length kg] 24)) = w6 at hb6 fW0 fW1 obg fg0 fg1 ⊢
  have ltg := obj_lt obg
  have obW := obj_below obW hb6 (obj_lt obW)
  have fW0 : (w6).cell? ⟨w3.heap.size, 0, none⟩ = some (Value.slice AW X.length cW) := (obj_cell obW).trans rfl
  have fW1 : (w6).cell? ⟨w3.heap.size, 1, none⟩ = some (Value.slice BW Y.length kW) := (obj_cell obW).trans rfl
  have fg0 : (w6).cell? ⟨w5.heap.size, 0, none⟩ = some (Value.slice Ag X.length cg) := (obj_cell obg).trans rfl
  have fg1 : (w6).cell? ⟨w5.heap.size, 1, none⟩ = some (Value.slice Bg Y.length kg) := (obj_cell obg).trans rfl
  have sz_w6 : w5.heap.size ≤ w6.heap.size := hb6.size
  have rW := rW.below (hb6.mono (by omega))
  have rg := rg.below (hb6.mono (by omega))
  have oW := oW.below hb6
  have og := og.below hb6
  have HB := HB.trans (hb6.mono (by omega))
  (with_reducible refine (eqN_R Ag AW Bg BW cg cW kg kW X Y w6 (rg.toN (by omega) (by omega) (by omega)) (rW.toN (by omega) (by omega) (by omega))).mono ?_)
  rintro e w7 ⟨rfl, hb7⟩
  have obW := obj_below obW hb7 (obj_lt obW)
  have obg := obj_below obg hb7 (obj_lt obg)
  have fW0 : (w7).cell? ⟨w3.heap.size, 0, none⟩ = some (Value.slice AW X.length cW) := (obj_cell obW).trans rfl
  have fW1 : (w7).cell? ⟨w3.heap.size, 1, none⟩ = some (Value.slice BW Y.length kW) := (obj_cell obW).trans rfl
  have fg0 : (w7).cell? ⟨w5.heap.size, 0, none⟩ = some (Value.slice Ag X.length cg) := (obj_cell obg).trans rfl
  have fg1 : (w7).cell? ⟨w5.heap.size, 1, none⟩ = some (Value.slice Bg Y.length kg) := (obj_cell obg).trans rfl
  have sz_w7 : w6.heap.size ≤ w7.heap.size := hb7.size
  have rW := rW.below (hb7.mono (by omega))
  have rg := rg.below (hb7.mono (by omega))
  have oW := oW.below hb7
  have og := og.below hb7
  have HB := HB.trans (hb7.mono (by omega))
  go_wp2_with fail
  (with_reducible refine (markN_R Ag Bg cg kg X Y _ _ (1) w7 (by omega) (by omega) (by omega) og).mono ?_)
  rintro e w8 ⟨rfl, om, sp8⟩
  have sz_w8 : w7.heap.size ≤ w8.heap.size := sp8.size
  have rW := rW.span sp8 (by omega) (by omega)
  clear og rg oW
  have og := om
  have rg := om.read
  clear om
  have HB := HB.trans (sp8.below (B := w.heap.size) (by omega) (by omega))
  have obW := (sp8.block _ (obj_lt obW) (by omega)).trans obW
  have obg := (sp8.block _ (obj_lt obg) (by omega)).trans obg
  have fW0 : (w8).cell? ⟨w3.heap.size, 0, none⟩ = some (Value.slice AW X.length cW) := (obj_cell obW).trans rfl
  have fW1 : (w8).cell? ⟨w3.heap.size, 1, none⟩ = some (Value.slice BW Y.length kW) := (obj_cell obW).trans rfl
  have fg0 : (w8).cell? ⟨w5.heap.size, 0, none⟩ = some (Value.slice Ag X.length cg) := (obj_cell obg).trans rfl
  have fg1 : (w8).cell? ⟨w5.heap.size, 1, none⟩ = some (Value.slice Bg Y.length kg) := (obj_cell obg).trans rfl
  go_wp2_with fail
  (with_reducible refine (heldN_R Ag Bg cg kg _ 1 X.length Y.length w8 (by omega) (by omega) (by omega) rg).mono ?_)
  rintro e w9 ⟨rfl, hb9⟩
  have obW := obj_below obW hb9 (obj_lt obW)
  have obg := obj_below obg hb9 (obj_lt obg)
  have fW0 : (w9).cell? ⟨w3.heap.size, 0, none⟩ = some (Value.slice AW X.length cW) := (obj_cell obW).trans rfl
  have fW1 : (w9).cell? ⟨w3.heap.size, 1, none⟩ = some (Value.slice BW Y.length kW) := (obj_cell obW).trans rfl
  have fg0 : (w9).cell? ⟨w5.heap.size, 0, none⟩ = some (Value.slice Ag X.length cg) := (obj_cell obg).trans rfl
  have fg1 : (w9).cell? ⟨w5.heap.size, 1, none⟩ = some (Value.slice Bg Y.length kg) := (obj_cell obg).trans rfl
  have sz_w9 : w8.heap.size ≤ w9.heap.size := hb9.size
  have rW := rW.below (hb9.mono (by omega))
  have rg := rg.below (hb9.mono (by omega))
  have og := og.below hb9
  have HB := HB.trans (hb9.mono (by omega))
  have hmq := (HB.cell (p := ⟨0, 0, none⟩) hG).trans HM.out
  have CI4 := Lib.hid (CI.out w9 hmq)
  clear hmq
  go_wp2_with fail
  (with_reducible refine CI4.out.mono ?_)
  rintro e w10 ⟨Ah, Bh, ch, kh, rfl, oh, hb10⟩
  have obW := obj_below obW hb10 (obj_lt obW)
  have obg := obj_below obg hb10 (obj_lt obg)
  have fW0 : (w10).cell? ⟨w3.heap.size, 0, none⟩ = some (Value.slice AW X.length cW) := (obj_cell obW).trans rfl
  have fW1 : (w10).cell? ⟨w3.heap.size, 1, none⟩ = some (Value.slice BW Y.length kW) := (obj_cell obW).trans rfl
  have fg0 : (w10).cell? ⟨w5.heap.size, 0, none⟩ = some (Value.slice Ag X.length cg) := (obj_cell obg).trans rfl
  have fg1 : (w10).cell? ⟨w5.heap.size, 1, none⟩ = some (Value.slice Bg Y.length kg) := (obj_cell obg).trans rfl
  have sz_w10 : w9.heap.size ≤ w10.heap.size := hb10.size
  have rW := rW.below (hb10.mono (by omega))
  have rg := rg.below (hb10.mono (by omega))
  have og := og.below hb10
  have HB := HB.trans (hb10.mono (by omega))
  have rh := oh.read
  have hb11 : Below w10.heap.size w10 (w10.alloc (Obj.cells #[Value.slice Ah X.length ch, Value.slice Bh Y.length kh] 24)) := (Below.refl _ _).alloc (Nat.le_refl _) _
  have obWq : (w10.alloc (Obj.cells #[Value.slice Ah X.length ch, Value.slice Bh Y.length kh] 24)).heap[w3.heap.size]? = some (Obj.cells #[Value.slice AW X.length cW, Value.slice BW Y.length kW] 24) := obj_below obW hb11 (obj_lt obW)
  have fW0 : (w10.alloc (Obj.cells #[Value.slice Ah X.length ch, Value.slice Bh Y.length kh] 24)).cell? ⟨w3.heap.size, 0, none⟩ = some (Value.slice AW X.length cW) := (obj_cell obWq).trans rfl
  have fW1 : (w10.alloc (Obj.cells #[Value.slice Ah X.length ch, Value.slice Bh Y.length kh] 24)).cell? ⟨w3.heap.size, 1, none⟩ = some (Value.slice BW Y.length kW) := (obj_cell obWq).trans rfl
  clear obWq
  have obgq : (w10.alloc (Obj.cells #[Value.slice Ah X.length ch, Value.slice Bh Y.length kh] 24)).heap[w5.heap.size]? = some (Obj.cells #[Value.slice Ag X.length cg, Value.slice Bg Y.length kg] 24) := obj_below obg hb11 (obj_lt obg)
  have fg0 : (w10.alloc (Obj.cells #[Value.slice Ah X.length ch, Value.slice Bh Y.length kh] 24)).cell? ⟨w5.heap.size, 0, none⟩ = some (Value.slice Ag X.length cg) := (obj_cell obgq).trans rfl
  have fg1 : (w10.alloc (Obj.cells #[Value.slice Ah X.length ch, Value.slice Bh Y.length kh] 24)).cell? ⟨w5.heap.size, 1, none⟩ = some (Value.slice Bg Y.length kg) := (obj_cell obgq).trans rfl
  clear obgq
  have obh : (w10.alloc (Obj.cells #[Value.slice Ah X.length ch, Value.slice Bh Y.length kh] 24)).heap[w10.heap.size]? = some (Obj.cells #[Value.slice Ah X.length ch, Value.slice Bh Y.length kh] 24) := obj_new _ _
  have fh0 : (w10.alloc (Obj.cells #[Value.slice Ah X.length ch, Value.slice Bh Y.length kh] 24)).cell? ⟨w10.heap.size, 0, none⟩ = some (Value.slice Ah X.length ch) := (obj_cell obh).trans rfl
  have fh1 : (w10.alloc (Obj.cells #[Value.slice Ah X.length ch, Value.slice Bh Y.length kh] 24)).cell? ⟨w10.heap.size, 1, none⟩ = some (Value.slice Bh Y.length kh) := (obj_cell obh).trans rfl
  go_wp2_with fail
  generalize (w10.alloc (Obj.cells #[Value.slice Ah X.length ch, Value.slice Bh Y.length kh] 24)) = w11 at hb11 fW0 fW1 fg0 fg1 obh fh0 fh1 ⊢
  have lth := obj_lt obh
  have obW := obj_below obW hb11 (obj_lt obW)
  have obg := obj_below obg hb11 (obj_lt obg)
  have fW0 : (w11).cell? ⟨w3.heap.size, 0, none⟩ = some (Value.slice AW X.length cW) := (obj_cell obW).trans rfl
  have fW1 : (w11).cell? ⟨w3.heap.size, 1, none⟩ = some (Value.slice BW Y.length kW) := (obj_cell obW).trans rfl
  have fg0 : (w11).cell? ⟨w5.heap.size, 0, none⟩ = some (Value.slice Ag X.length cg) := (obj_cell obg).trans rfl
  have fg1 : (w11).cell? ⟨w5.heap.size, 1, none⟩ = some (Value.slice Bg Y.length kg) := (obj_cell obg).trans rfl
  have fh0 : (w11).cell? ⟨w10.heap.size, 0, none⟩ = some (Value.slice Ah X.length ch) := (obj_cell obh).trans rfl
  have fh1 : (w11).cell? ⟨w10.heap.size, 1, none⟩ = some (Value.slice Bh Y.length kh) := (obj_cell obh).trans rfl
  have sz_w11 : w10.heap.size ≤ w11.heap.size := hb11.size
  have rW := rW.below (hb11.mono (by omega))
  have rg := rg.below (hb11.mono (by omega))
  have rh := rh.below (hb11.mono (by omega))
  have og := og.below hb11
  have oh := oh.below hb11
  have HB := HB.trans (hb11.mono (by omega))
  (with_reducible refine (eqN_R Ah AW Bh BW ch cW kh kW X Y w11 (rh.toN (by omega) (by omega) (by omega)) (rW.toN (by omega) (by omega) (by omega))).mono ?_)
  rintro e w12 ⟨rfl, hb12⟩
  have obW := obj_below obW hb12 (obj_lt obW)
  have obg := obj_below obg hb12 (obj_lt obg)
  have obh := obj_below obh hb12 (obj_lt obh)
  have fW0 : (w12).cell? ⟨w3.heap.size, 0, none⟩ = some (Value.slice AW X.length cW) := (obj_cell obW).trans rfl
  have fW1 : (w12).cell? ⟨w3.heap.size, 1, none⟩ = some (Value.slice BW Y.length kW) := (obj_cell obW).trans rfl
  have fg0 : (w12).cell? ⟨w5.heap.size, 0, none⟩ = some (Value.slice Ag X.length cg) := (obj_cell obg).trans rfl
  have fg1 : (w12).cell? ⟨w5.heap.size, 1, none⟩ = some (Value.slice Bg Y.length kg) := (obj_cell obg).trans rfl
  have fh0 : (w12).cell? ⟨w10.heap.size, 0, none⟩ = some (Value.slice Ah X.length ch) := (obj_cell obh).trans rfl
  have fh1 : (w12).cell? ⟨w10.heap.size, 1, none⟩ = some (Value.slice Bh Y.length kh) := (obj_cell obh).trans rfl
  have sz_w12 : w11.heap.size ≤ w12.heap.size := hb12.size
  have rW := rW.below (hb12.mono (by omega))
  have rg := rg.below (hb12.mono (by omega))
  have rh := rh.below (hb12.mono (by omega))
  have og := og.below hb12
  have oh := oh.below hb12
  have HB := HB.trans (hb12.mono (by omega))
  go_wp2_with fail
  (with_reducible refine (heldN_R Ag Bg cg kg _ 1 X.length Y.length w12 (by omega) (by omega) (by omega) rg).mono ?_)
  rintro e w13 ⟨rfl, hb13⟩
  have obW := obj_below obW hb13 (obj_lt obW)
  have obg := obj_below obg hb13 (obj_lt obg)
  have obh := obj_below obh hb13 (obj_lt obh)
  have fW0 : (w13).cell? ⟨w3.heap.size, 0, none⟩ = some (Value.slice AW X.length cW) := (obj_cell obW).trans rfl
  have fW1 : (w13).cell? ⟨w3.heap.size, 1, none⟩ = some (Value.slice BW Y.length kW) := (obj_cell obW).trans rfl
  have fg0 : (w13).cell? ⟨w5.heap.size, 0, none⟩ = some (Value.slice Ag X.length cg) := (obj_cell obg).trans rfl
  have fg1 : (w13).cell? ⟨w5.heap.size, 1, none⟩ = some (Value.slice Bg Y.length kg) := (obj_cell obg).trans rfl
  have fh0 : (w13).cell? ⟨w10.heap.size, 0, none⟩ = some (Value.slice Ah X.length ch) := (obj_cell obh).trans rfl
  have fh1 : (w13).cell? ⟨w10.heap.size, 1, none⟩ = some (Value.slice Bh Y.length kh) := (obj_cell obh).trans rfl
  have sz_w13 : w12.heap.size ≤ w13.heap.size := hb13.size
  have rW := rW.below (hb13.mono (by omega))
  have rg := rg.below (hb13.mono (by omega))
  have rh := rh.below (hb13.mono (by omega))
  have og := og.below hb13
  have oh := oh.below hb13
  have HB := HB.trans (hb13.mono (by omega))
  go_wp2_with fail
  go_ret
  exact ⟨rfl, HB⟩
end Go.Proofs.YtodokdddcikhdaaDoor
