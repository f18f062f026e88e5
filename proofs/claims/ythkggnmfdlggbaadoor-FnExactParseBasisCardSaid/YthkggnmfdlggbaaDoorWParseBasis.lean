/- The walk of FnExactParseBasis: every call by its contract. -/
import Derived.Test.YthkggnmfdlggbaaDoorPB2
import Derived.Test.YthkggnmfdlggbaaDoorR2
import Derived.Test.YthkggnmfdlggbaaDoorL2
namespace Go.Proofs.YthkggnmfdlggbaaDoor
set_option maxRecDepth 100000
open Go Go.RowKit

set_option maxHeartbeats 2000000 in
set_option maxRecDepth 100000 in
theorem walk_FnExactParseBasis (w : World) (s : ByteArray) (hsz : s.size ≤ 9223372036854775807) (m : Int) (hm : w.cell? ⟨0, 0, none⟩ = some (.int .i64 m)) :
    Calls Tryd.prog 3 #[.string s] w (Rb w (.bool true)) := by
  have hG := World.block_lt_of_cell? _ _ hm
  rcases Nat.lt_or_ge 1048576 s.size with hbig | hs
  · have d1 : decide ((s.size : Int) > 1048576) = true := decide_eq_true (by omega)
    have d2 : decide (1048576 < (s.size : Int)) = true := decide_eq_true (by omega)
    clear hm
    go_enter Tryd.func3, Tryd.ntmps3
    go_wp2
    go_ret
    exact ⟨rfl, Below.refl _ _⟩
  have d1 : decide ((s.size : Int) > 1048576) = false := decide_eq_false (by omega)
  have d2 : decide (1048576 < (s.size : Int)) = false := decide_eq_false (by omega)
  have HM := Lib.hid hm
  have hGl := pbG_le s
  obtain ⟨X, hX⟩ : ∃ X, X = pbG s := ⟨_, rfl⟩
  obtain ⟨bo, hbo⟩ : ∃ bo, bo = pbOk s := ⟨_, rfl⟩
  have CS := Lib.hid (fun W : World => parseBasis_spec s W hs)
  have CI := Lib.hid (fun (W : World) (hW : W.cell? ⟨0, 0, none⟩ = some (.int .i64 m)) => parseBasis_impl s m W hs hW)
  rw [← hX, ← hbo] at CS
  rw [← hX, ← hbo] at CI
  rw [← hX] at hGl
  clear hX hbo hm
  go_enter Tryd.func3, Tryd.ntmps3
  have HB := Below.refl w.heap.size w
  go_wp2_with fail
  (with_reducible refine (CS.out w).mono ?_)
  rintro e w3 ⟨AW, cW, RW, rfl, eW, oW, hb3⟩
  have sz4 : w.heap.size ≤ w3.heap.size := hb3.size
  have HB := HB.trans (hb3.mono (by omega))
  have rW := oW.read
  have zW : RW.length ≤ X.length := Nat.le_of_eq (map_len1 eW)
  have yW : sizeR RW ≤ sizeX X := Nat.le_of_eq (map_size1 eW)
  have hm3 := (HB.cell (p := ⟨0, 0, none⟩) hG).trans HM.out
  have CI3 := Lib.hid (CI.out w3 hm3)
  clear hm3
  go_wp2_with fail
  (with_reducible refine CI3.out.mono ?_)
  rintro e w5 ⟨Ag, cg, Rg, rfl, eg, og, hb5⟩
  have sz6 : w3.heap.size ≤ w5.heap.size := hb5.size
  have rW := rW.below (hb5.mono (by omega))
  have HB := HB.trans (hb5.mono (by omega))
  have rg := og.read
  have zg : Rg.length ≤ X.length := Nat.le_of_eq (map_len1 eg)
  have yg : sizeR Rg ≤ sizeX X := Nat.le_of_eq (map_size1 eg)
  clear oW
  go_wp2_with fail
  (with_reducible refine (eqL_R Ag AW cg cW Rg RW w5 (rg.toL (by omega) (by omega)) (rW.toL (by omega) (by omega)) (eg.trans eW.symm)).mono ?_)
  rintro e w6 ⟨rfl, hb6⟩
  have sz7 : w5.heap.size ≤ w6.heap.size := hb6.size
  have rW := rW.below (hb6.mono (by omega))
  have rg := rg.below (hb6.mono (by omega))
  have og := og.below hb6
  have HB := HB.trans (hb6.mono (by omega))
  go_wp2_with fail
  (with_reducible refine (markL_R Ag cg Rg _ _ (1) w6 (by omega) (by omega) (by omega) og).mono ?_)
  rintro e w11 ⟨rfl, om, sp11⟩
  have sz12 : w6.heap.size ≤ w11.heap.size := sp11.size
  have rW := rW.span sp11 (by omega) (by omega)
  clear og rg
  have og := om
  have rg := om.read
  clear om
  have HB := HB.trans (sp11.below (B := w.heap.size) (by omega) (by omega))
  go_wp2_with fail
  (with_reducible refine (heldL_R Ag cg _ 1 Rg w11 (by omega) (by omega) (by omega) rg).mono ?_)
  rintro e w12 ⟨rfl, hb12⟩
  have sz13 : w11.heap.size ≤ w12.heap.size := hb12.size
  have rW := rW.below (hb12.mono (by omega))
  have rg := rg.below (hb12.mono (by omega))
  have HB := HB.trans (hb12.mono (by omega))
  have hm12 := (HB.cell (p := ⟨0, 0, none⟩) hG).trans HM.out
  have CI12 := Lib.hid (CI.out w12 hm12)
  clear hm12
  go_wp2_with fail
  (with_reducible refine CI12.out.mono ?_)
  rintro e w14 ⟨Ah, ch, Rh, rfl, eh, oh, hb14⟩
  have sz15 : w12.heap.size ≤ w14.heap.size := hb14.size
  have rW := rW.below (hb14.mono (by omega))
  have rg := rg.below (hb14.mono (by omega))
  have HB := HB.trans (hb14.mono (by omega))
  have rh := oh.read
  have zh : Rh.length ≤ X.length := Nat.le_of_eq (map_len1 eh)
  have yh : sizeR Rh ≤ sizeX X := Nat.le_of_eq (map_size1 eh)
  go_wp2_with fail
  (with_reducible refine (eqL_R Ah AW ch cW Rh RW w14 (rh.toL (by omega) (by omega)) (rW.toL (by omega) (by omega)) (eh.trans eW.symm)).mono ?_)
  rintro e w15 ⟨rfl, hb15⟩
  have sz16 : w14.heap.size ≤ w15.heap.size := hb15.size
  have rg := rg.below (hb15.mono (by omega))
  have HB := HB.trans (hb15.mono (by omega))
  go_wp2_with fail
  (with_reducible refine (heldL_R Ag cg _ 1 Rg w15 (by omega) (by omega) (by omega) rg).mono ?_)
  rintro e w16 ⟨rfl, hb16⟩
  have HB := HB.trans (hb16.mono (by omega))
  go_wp2_with fail
  go_ret
  exact ⟨rfl, HB⟩
end Go.Proofs.YthkggnmfdlggbaaDoor
